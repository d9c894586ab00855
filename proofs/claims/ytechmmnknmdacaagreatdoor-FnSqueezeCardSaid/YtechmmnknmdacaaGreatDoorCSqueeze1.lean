/- That the code computes these functions (printed by a program). -/
import Derived.Test.YtechmmnknmdacaaGreatDoorCSqueeze0
namespace Go.Proofs.YtechmmnknmdacaaGreatDoor
open Go Go.RowKit Go.Ab
theorem OK_sL1PickInt (p0:GL1Cur) (p1:(List Int)):FOkB Tryz.prog 139 [(.ptr 1000000 0),(.d (.sl 1 (p1.map cI)))] [(1000000, bGL1Cur p0)] (fun (y:Int × GL1Cur) => (vI y.1)) (fun (y:Int × GL1Cur) => [(1000000, bGL1Cur y.2)]) (sL1PickInt p0 p1):=by
 intro r h
 rw [sL1PickInt] at h
 refine acalls_of_fn trsL1PickInt (Nat.le_of_ble_eq_true rfl) (by intro n hn; simp at hn; simp only [NX]; omega) ?_
 show avc Tryz.prog acsL1PickInt (qsL1PickInt _) ⟨[(0,(.ptr 1000000 0)),(1,(.d (.sl 1 (p1.map cI))))], [(1000000, bGL1Cur p0)]⟩
 delta acsL1PickInt
 refine so ?_
 let a0:St:=⟨[(4,(vI 0)),(0,(.ptr 1000000 0)),(1,(.d (.sl 1 (p1.map cI))))], [(1000000, bGL1Cur p0)]⟩
 refine st 1 a0 (nx (so ?_))
 let a1:St:=a0.p [(7,(.d (.sl 1 (p1.map cI)))),(6,(.ptr 1000000 0)),(5,(.d (.sl 1 (p1.map cI))))]
 refine st 3 a1 (ps (vI (ln p1)) (vln (sz:=1) (l:=p1) (f:=cI)) ?_)
 refine callg_step ⟨[(1000000, 1000000)], [], [], [], [], [], [], [], []⟩ (m:=sL1Below p0 (ln p1)) (S':=fun (y:Int × GL1Cur) => ⟨(9,(vI y.1)) :: (8,(vI (ln p1))) :: a1.env, [(1000000, bGL1Cur y.2)]⟩) h (OK_sL1Below p0 (ln p1)) kr kr kr kr (fun y => by kernel_rfl) (fun y => by kernel_rfl) ?_
 clear h; intro y1 h
 refine vs (fun (y:Int) => (.rp [(.i .i64 y)])) h (fun y hy => via (l:=p1) (f:=cI) (g:=cI) (k:=.i64) hy (fun _ => rfl)) fun y2 h => ?_
 let a2:St:=⟨(4,(vI y2)) :: (11,(vI y2)) :: (10,(.rp [(.i .i64 y2)])) :: (9,(vI y1.1)) :: (8,(vI (ln p1))) :: a1.env, [(1000000, bGL1Cur y1.2)]⟩
 refine st 2 a2 (nx (ri ?_))
 injection h with h; subst h
 exact ret1_step (v:=(vI y2)) kr kr ⟨by kernel_rfl, by kernel_rfl, trivial⟩
theorem OK_sL1Whole (p0:GL1Cur):FOkB Tryz.prog 108 [(.ptr 1000000 0)] [(1000000, bGL1Cur p0)] (fun (y:Int × GL1Cur) => (vI y.1)) (fun (y:Int × GL1Cur) => [(1000000, bGL1Cur y.2)]) (sL1Whole p0):=by
 intro r h
 rw [sL1Whole] at h
 refine acalls_of_fn trsL1Whole (Nat.le_of_ble_eq_true rfl) (by intro n hn; simp at hn; simp only [NX]; omega) ?_
 show avc Tryz.prog acsL1Whole (qsL1Whole _) ⟨[(0,(.ptr 1000000 0))], [(1000000, bGL1Cur p0)]⟩
 delta acsL1Whole
 refine so ?_
 let a0:St:=⟨[(2,(vI 0)),(0,(.ptr 1000000 0))], [(1000000, bGL1Cur p0)]⟩
 refine st 1 a0 (nx (si (so ?_)))
 let a1:St:=a0.p [(3,(.ptr 1000000 0))]
 refine st 1 a1 (callg_step ⟨[(1000000, 1000000)], [], [], [], [], [], [], [], []⟩ (m:=sL1Below p0 3) (S':=fun (y:Int × GL1Cur) => ⟨(4,(vI y.1)) :: a1.env, [(1000000, bGL1Cur y.2)]⟩) h (OK_sL1Below p0 3) kr kr kr kr (fun y => by kernel_rfl) (fun y => by kernel_rfl) ?_)
 clear h; intro y1 h
 refine nx (bi (so ?_))
 let a2:St:=⟨(5,(vB (decide (y1.1 = 0)))) :: (6,(vB (decide (y1.1 = 0)))) :: (4,(vI y1.1)) :: a1.env, [(1000000, bGL1Cur y1.2)]⟩
 refine st 2 a2 (nx ?_)
 refine cd h (fun h => ?_) fun h => ?_
 refine so ?_
 let a3:St:=a2.p [(7,(.ptr 1000000 0))]
 refine st 1 a3 (bsl_step (l:=([0, 1,(-1), 63, 64,(-64),(-65), 127, 128, 16383, 16384, 9223372036854775807,(-9223372036854775808), 4611686018427387904]:List Int)) (f:=cI) (g:=cI) kr (fun _ => rfl) kr ?_)
 refine callg_step ⟨[(1000000, 1000000)], [], [], [], [], [], [], [], []⟩ (m:=sL1PickInt y1.2 ([0, 1,(-1), 63, 64,(-64),(-65), 127, 128, 16383, 16384, 9223372036854775807,(-9223372036854775808), 4611686018427387904]:List Int)) (S':=fun (y:Int × GL1Cur) => ⟨(9,(vI y.1)) :: (8,(.osl 8 3 1 (([0, 1,(-1), 63, 64,(-64),(-65), 127, 128, 16383, 16384, 9223372036854775807,(-9223372036854775808), 4611686018427387904]:List Int).map cI))) :: a3.env, [(1000000, bGL1Cur y.2)]⟩) h (OK_sL1PickInt y1.2 ([0, 1,(-1), 63, 64,(-64),(-65), 127, 128, 16383, 16384, 9223372036854775807,(-9223372036854775808), 4611686018427387904]:List Int)) kr kr kr kr (fun y => by kernel_rfl) (fun y => by kernel_rfl) ?_
 clear h; intro y2 h
 let a4:St:=⟨(2,(vI y2.1)) :: (9,(vI y2.1)) :: (8,(.osl 8 3 1 (([0, 1,(-1), 63, 64,(-64),(-65), 127, 128, 16383, 16384, 9223372036854775807,(-9223372036854775808), 4611686018427387904]:List Int).map cI))) :: a3.env, [(1000000, bGL1Cur y2.2)]⟩
 refine st 1 a4 (nx (ri (br (tr ?_))))
 injection h with h; subst h
 exact ret1_step (v:=(vI y2.1)) kr kr ⟨by kernel_rfl, by kernel_rfl, trivial⟩
 refine so ?_
 let a5:St:=a2.p [(10,(vB (decide (y1.1 = 1)))),(11,(vB (decide (y1.1 = 1))))]
 refine st 2 a5 (nx ?_)
 refine cd h (fun h => ?_) fun h => ?_
 refine so ?_
 let a6:St:=a5.p [(12,(.ptr 1000000 0))]
 refine st 1 a6 (callg_step ⟨[(1000000, 1000000)], [], [], [], [], [], [], [], []⟩ (m:=sL1Below y1.2 1000000) (S':=fun (y:Int × GL1Cur) => ⟨(13,(vI y.1)) :: a6.env, [(1000000, bGL1Cur y.2)]⟩) h (OK_sL1Below y1.2 1000000) kr kr kr kr (fun y => by kernel_rfl) (fun y => by kernel_rfl) ?_)
 clear h; intro y3 h
 let a7:St:=⟨(2,(vI (IntKind.wrap .i64 (y3.1 - 500000)))) :: (14,(vI (IntKind.wrap .i64 (y3.1 - 500000)))) :: (13,(vI y3.1)) :: a6.env, [(1000000, bGL1Cur y3.2)]⟩
 refine st 2 a7 (nx (ri (br (tr ?_))))
 injection h with h; subst h
 exact ret1_step (v:=(vI (IntKind.wrap .i64 (y3.1 - 500000)))) kr kr ⟨by kernel_rfl, by kernel_rfl, trivial⟩
 refine ki (bn (xi (so ?_)))
 let a8:St:=a5.p [(15,(.ptr 1000000 0))]
 refine st 1 a8 (callg_step ⟨[(1000000, 1000000)], [], [], [], [], [], [], [], []⟩ (m:=sL1Below y1.2 20) (S':=fun (y:Int × GL1Cur) => ⟨(16,(vI y.1)) :: a8.env, [(1000000, bGL1Cur y.2)]⟩) h (OK_sL1Below y1.2 20) kr kr kr kr (fun y => by kernel_rfl) (fun y => by kernel_rfl) ?_)
 clear h; intro y4 h
 let a9:St:=⟨(2,(vI y4.1)) :: (16,(vI y4.1)) :: a8.env, [(1000000, bGL1Cur y4.2)]⟩
 refine st 1 a9 (nx (ri ?_))
 injection h with h; subst h
 exact ret1_step (v:=(vI y4.1)) kr kr ⟨by kernel_rfl, by kernel_rfl, trivial⟩
theorem OK_sL2Name (p0:GL1Cur):FOkB Tryz.prog 128 [(.ptr 1000000 0)] [(1000000, bGL1Cur p0)] (fun (y:(List UInt8) × GL1Cur) => (vS y.1)) (fun (y:(List UInt8) × GL1Cur) => [(1000000, bGL1Cur y.2)]) (sL2Name p0):=by
 intro r h
 rw [sL2Name] at h
 refine acalls_of_fn trsL2Name (Nat.le_of_ble_eq_true rfl) (by intro n hn; simp at hn; simp only [NX]; omega) ?_
 show avc Tryz.prog acsL2Name (qsL2Name _) ⟨[(0,(.ptr 1000000 0))], [(1000000, bGL1Cur p0)]⟩
 delta acsL2Name
 refine so ?_
 let a0:St:=⟨[(2,(vS [])),(0,(.ptr 1000000 0))], [(1000000, bGL1Cur p0)]⟩
 refine st 1 a0 (nx (si (so ?_)))
 let a1:St:=a0.p [(3,(.ptr 1000000 0))]
 refine st 1 a1 (callg_step ⟨[(1000000, 1000000)], [], [], [], [], [], [], [], []⟩ (m:=sL1Once p0 6) (S':=fun (y:Bool × GL1Cur) => ⟨(4,(vB y.1)) :: a1.env, [(1000000, bGL1Cur y.2)]⟩) h (OK_sL1Once p0 6) kr kr kr kr (fun y => by kernel_rfl) (fun y => by kernel_rfl) ?_)
 clear h; intro y1 h
 refine nx ?_
 refine cd h (fun h => ?_) fun h => ?_
 refine so ?_
 let a2:St:=⟨(5,(.ptr 1000000 0)) :: (4,(vB y1.1)) :: a1.env, [(1000000, bGL1Cur y1.2)]⟩
 refine st 1 a2 (bsl_step (l:=([[97, 32, 98], [102, 114, 111, 109], [83, 101, 108, 101, 99, 116], [49, 120], [113, 34, 113], [0], [34], [105, 116, 39, 115], [120, 46, 121], [45]]:List (List UInt8))) (f:=cStr) (g:=cStr) kr (fun _ => rfl) kr ?_)
 refine callg_step ⟨[(1000000, 1000000)], [], [], [], [], [], [], [], []⟩ (m:=sL1Pick y1.2 ([[97, 32, 98], [102, 114, 111, 109], [83, 101, 108, 101, 99, 116], [49, 120], [113, 34, 113], [0], [34], [105, 116, 39, 115], [120, 46, 121], [45]]:List (List UInt8))) (S':=fun (y:(List UInt8) × GL1Cur) => ⟨(7,(vS y.1)) :: (6,(.osl 6 9 1 (([[97, 32, 98], [102, 114, 111, 109], [83, 101, 108, 101, 99, 116], [49, 120], [113, 34, 113], [0], [34], [105, 116, 39, 115], [120, 46, 121], [45]]:List (List UInt8)).map cStr))) :: a2.env, [(1000000, bGL1Cur y.2)]⟩) h (OK_sL1Pick y1.2 ([[97, 32, 98], [102, 114, 111, 109], [83, 101, 108, 101, 99, 116], [49, 120], [113, 34, 113], [0], [34], [105, 116, 39, 115], [120, 46, 121], [45]]:List (List UInt8))) kr kr kr kr (fun y => by kernel_rfl) (fun y => by kernel_rfl) ?_
 clear h; intro y2 h
 let a3:St:=⟨(2,(vS y2.1)) :: (7,(vS y2.1)) :: (6,(.osl 6 9 1 (([[97, 32, 98], [102, 114, 111, 109], [83, 101, 108, 101, 99, 116], [49, 120], [113, 34, 113], [0], [34], [105, 116, 39, 115], [120, 46, 121], [45]]:List (List UInt8)).map cStr))) :: a2.env, [(1000000, bGL1Cur y2.2)]⟩
 refine st 1 a3 (nx (ri (tr ?_)))
 injection h with h; subst h
 exact ret1_step (v:=(vS y2.1)) kr kr ⟨by kernel_rfl, by kernel_rfl, trivial⟩
 refine ki (xi (so ?_))
 let a4:St:=⟨(8,(.ptr 1000000 0)) :: (4,(vB y1.1)) :: a1.env, [(1000000, bGL1Cur y1.2)]⟩
 refine st 1 a4 (bsl_step (l:=([[97], [98], [99], [116], [117], [118], [105, 100], [110, 97, 109, 101], [65], [95, 120, 49]]:List (List UInt8))) (f:=cStr) (g:=cStr) kr (fun _ => rfl) kr ?_)
 refine callg_step ⟨[(1000000, 1000000)], [], [], [], [], [], [], [], []⟩ (m:=sL1Pick y1.2 ([[97], [98], [99], [116], [117], [118], [105, 100], [110, 97, 109, 101], [65], [95, 120, 49]]:List (List UInt8))) (S':=fun (y:(List UInt8) × GL1Cur) => ⟨(10,(vS y.1)) :: (9,(.osl 9 9 1 (([[97], [98], [99], [116], [117], [118], [105, 100], [110, 97, 109, 101], [65], [95, 120, 49]]:List (List UInt8)).map cStr))) :: a4.env, [(1000000, bGL1Cur y.2)]⟩) h (OK_sL1Pick y1.2 ([[97], [98], [99], [116], [117], [118], [105, 100], [110, 97, 109, 101], [65], [95, 120, 49]]:List (List UInt8))) kr kr kr kr (fun y => by kernel_rfl) (fun y => by kernel_rfl) ?_
 clear h; intro y3 h
 let a5:St:=⟨(2,(vS y3.1)) :: (10,(vS y3.1)) :: (9,(.osl 9 9 1 (([[97], [98], [99], [116], [117], [118], [105, 100], [110, 97, 109, 101], [65], [95, 120, 49]]:List (List UInt8)).map cStr))) :: a4.env, [(1000000, bGL1Cur y3.2)]⟩
 refine st 1 a5 (nx (ri ?_))
 injection h with h; subst h
 exact ret1_step (v:=(vS y3.1)) kr kr ⟨by kernel_rfl, by kernel_rfl, trivial⟩
theorem OK_sL2Words:FOkB Tryz.prog 127 [] [] (fun (y:(List (List UInt8))) => (.osl 2000000 9 1 (y.map cStr))) (fun (y:(List (List UInt8))) => []) (sL2Words):=by
 intro r h
 rw [sL2Words] at h
 refine aof trsL2Words ?_
 show avc Tryz.prog acsL2Words (qsL2Words _) ⟨[], []⟩
 delta acsL2Words
 refine so ?_
 let a0:St:=⟨[(0,(.nil 1))], []⟩
 refine st 1 a0 (nx (so ?_))
 refine bsl_step (l:=([[], [83, 69, 76, 69, 67, 84], [68, 73, 83, 84, 73, 78, 67, 84], [70, 82, 79, 77], [74, 79, 73, 78], [79, 78], [87, 72, 69, 82, 69], [79, 82, 68, 69, 82], [66, 89], [65, 83, 67], [68, 69, 83, 67], [76, 73, 77, 73, 84], [65, 83], [65, 78, 68], [79, 82], [78, 79, 84], [73, 83], [73, 78], [66, 69, 84, 87, 69, 69, 78], [69, 88, 73, 83, 84, 83], [78, 85, 76, 76], [84, 82, 85, 69], [70, 65, 76, 83, 69], [73, 78, 83, 69, 82, 84], [73, 78, 84, 79], [86, 65, 76, 85, 69, 83], [85, 80, 68, 65, 84, 69], [83, 69, 84], [68, 69, 76, 69, 84, 69]]:List (List UInt8))) (f:=cStr) (g:=cStr) kr (fun _ => rfl) kr ?_
 let a1:St:=a0.p [(0,(.osl 0 9 1 (([[], [83, 69, 76, 69, 67, 84], [68, 73, 83, 84, 73, 78, 67, 84], [70, 82, 79, 77], [74, 79, 73, 78], [79, 78], [87, 72, 69, 82, 69], [79, 82, 68, 69, 82], [66, 89], [65, 83, 67], [68, 69, 83, 67], [76, 73, 77, 73, 84], [65, 83], [65, 78, 68], [79, 82], [78, 79, 84], [73, 83], [73, 78], [66, 69, 84, 87, 69, 69, 78], [69, 88, 73, 83, 84, 83], [78, 85, 76, 76], [84, 82, 85, 69], [70, 65, 76, 83, 69], [73, 78, 83, 69, 82, 84], [73, 78, 84, 79], [86, 65, 76, 85, 69, 83], [85, 80, 68, 65, 84, 69], [83, 69, 84], [68, 69, 76, 69, 84, 69]]:List (List UInt8)).map cStr))),(1,(.d (.sl 1 (([[], [83, 69, 76, 69, 67, 84], [68, 73, 83, 84, 73, 78, 67, 84], [70, 82, 79, 77], [74, 79, 73, 78], [79, 78], [87, 72, 69, 82, 69], [79, 82, 68, 69, 82], [66, 89], [65, 83, 67], [68, 69, 83, 67], [76, 73, 77, 73, 84], [65, 83], [65, 78, 68], [79, 82], [78, 79, 84], [73, 83], [73, 78], [66, 69, 84, 87, 69, 69, 78], [69, 88, 73, 83, 84, 83], [78, 85, 76, 76], [84, 82, 85, 69], [70, 65, 76, 83, 69], [73, 78, 83, 69, 82, 84], [73, 78, 84, 79], [86, 65, 76, 85, 69, 83], [85, 80, 68, 65, 84, 69], [83, 69, 84], [68, 69, 76, 69, 84, 69]]:List (List UInt8)).map cStr))))]
 refine st 1 a1 (nx ?_)
 refine ret_wk (s':=⟨[(0,(.osl 2000000 9 1 (([[], [83, 69, 76, 69, 67, 84], [68, 73, 83, 84, 73, 78, 67, 84], [70, 82, 79, 77], [74, 79, 73, 78], [79, 78], [87, 72, 69, 82, 69], [79, 82, 68, 69, 82], [66, 89], [65, 83, 67], [68, 69, 83, 67], [76, 73, 77, 73, 84], [65, 83], [65, 78, 68], [79, 82], [78, 79, 84], [73, 83], [73, 78], [66, 69, 84, 87, 69, 69, 78], [69, 88, 73, 83, 84, 83], [78, 85, 76, 76], [84, 82, 85, 69], [70, 65, 76, 83, 69], [73, 78, 83, 69, 82, 84], [73, 78, 84, 79], [86, 65, 76, 85, 69, 83], [85, 80, 68, 65, 84, 69], [83, 69, 84], [68, 69, 76, 69, 84, 69]]:List (List UInt8)).map cStr)))], []⟩) (wr [(2000000, .old 0)] (eo 0 er_nil) br_nil) ?_
 injection h with h; subst h
 exact ret1_step (v:=(.osl 2000000 9 1 (([[], [83, 69, 76, 69, 67, 84], [68, 73, 83, 84, 73, 78, 67, 84], [70, 82, 79, 77], [74, 79, 73, 78], [79, 78], [87, 72, 69, 82, 69], [79, 82, 68, 69, 82], [66, 89], [65, 83, 67], [68, 69, 83, 67], [76, 73, 77, 73, 84], [65, 83], [65, 78, 68], [79, 82], [78, 79, 84], [73, 83], [73, 78], [66, 69, 84, 87, 69, 69, 78], [69, 88, 73, 83, 84, 83], [78, 85, 76, 76], [84, 82, 85, 69], [70, 65, 76, 83, 69], [73, 78, 83, 69, 82, 84], [73, 78, 84, 79], [86, 65, 76, 85, 69, 83], [85, 80, 68, 65, 84, 69], [83, 69, 84], [68, 69, 76, 69, 84, 69]]:List (List UInt8)).map cStr))) kr kr ⟨by kernel_rfl, trivial⟩
theorem OK_sL3Sign (p0:GL1Cur):FOkB Tryz.prog 131 [(.ptr 1000000 0)] [(1000000, bGL1Cur p0)] (fun (y:(List UInt8) × GL1Cur) => (vS y.1)) (fun (y:(List UInt8) × GL1Cur) => [(1000000, bGL1Cur y.2)]) (sL3Sign p0):=by
 intro r h
 rw [sL3Sign] at h
 refine acalls_of_fn trsL3Sign (Nat.le_of_ble_eq_true rfl) (by intro n hn; simp at hn; simp only [NX]; omega) ?_
 show avc Tryz.prog acsL3Sign (qsL3Sign _) ⟨[(0,(.ptr 1000000 0))], [(1000000, bGL1Cur p0)]⟩
 delta acsL3Sign
 refine so ?_
 let a0:St:=⟨[(2,(vS [])),(0,(.ptr 1000000 0))], [(1000000, bGL1Cur p0)]⟩
 refine st 1 a0 (nx (so ?_))
 let a1:St:=a0.p [(3,(.ptr 1000000 0))]
 refine st 1 a1 (bsl_step (l:=([[40], [41], [44], [46], [42], [43], [45], [47], [37], [61], [60, 62], [60], [60, 61], [62], [62, 61], [124, 124]]:List (List UInt8))) (f:=cStr) (g:=cStr) kr (fun _ => rfl) kr ?_)
 refine callg_step ⟨[(1000000, 1000000)], [], [], [], [], [], [], [], []⟩ (m:=sL1Pick p0 ([[40], [41], [44], [46], [42], [43], [45], [47], [37], [61], [60, 62], [60], [60, 61], [62], [62, 61], [124, 124]]:List (List UInt8))) (S':=fun (y:(List UInt8) × GL1Cur) => ⟨(5,(vS y.1)) :: (4,(.osl 4 9 1 (([[40], [41], [44], [46], [42], [43], [45], [47], [37], [61], [60, 62], [60], [60, 61], [62], [62, 61], [124, 124]]:List (List UInt8)).map cStr))) :: a1.env, [(1000000, bGL1Cur y.2)]⟩) h (OK_sL1Pick p0 ([[40], [41], [44], [46], [42], [43], [45], [47], [37], [61], [60, 62], [60], [60, 61], [62], [62, 61], [124, 124]]:List (List UInt8))) kr kr kr kr (fun y => by kernel_rfl) (fun y => by kernel_rfl) ?_
 clear h; intro y1 h
 let a2:St:=⟨(2,(vS y1.1)) :: (5,(vS y1.1)) :: (4,(.osl 4 9 1 (([[40], [41], [44], [46], [42], [43], [45], [47], [37], [61], [60, 62], [60], [60, 61], [62], [62, 61], [124, 124]]:List (List UInt8)).map cStr))) :: a1.env, [(1000000, bGL1Cur y1.2)]⟩
 refine st 1 a2 (nx (ri ?_))
 injection h with h; subst h
 exact ret1_step (v:=(vS y1.1)) kr kr ⟨by kernel_rfl, by kernel_rfl, trivial⟩
theorem OK_sL3Token (p0:GL1Cur):FOkB Tryz.prog 90 [(.ptr 1000000 0)] [(1000000, bGL1Cur p0)] (fun (y:GToken × GL1Cur) => (vGToken y.1)) (fun (y:GToken × GL1Cur) => [(1000000, bGL1Cur y.2)]) (sL3Token p0):=by
 intro r h
 rw [sL3Token] at h
 refine acalls_of_fn trsL3Token (Nat.le_of_ble_eq_true rfl) (by intro n hn; simp at hn; simp only [NX]; omega) ?_
 show avc Tryz.prog acsL3Token (qsL3Token _) ⟨[(0,(.ptr 1000000 0))], [(1000000, bGL1Cur p0)]⟩
 delta acsL3Token
 refine so ?_
 let a0:St:=⟨[(2,(.ptr 2 0)),(0,(.ptr 1000000 0))], [(2, [(vI 0),(vS []),(vI 0)]),(1000000, bGL1Cur p0)]⟩
 refine st 1 a0 (nx (si (so ?_)))
 let a1:St:=a0.p [(3,(.ptr 1000000 0))]
 refine st 1 a1 (callg_step ⟨[(1000000, 1000000)], [], [], [], [], [], [], [], []⟩ (m:=sL1Below p0 6) (S':=fun (y:Int × GL1Cur) => ⟨(4,(vI y.1)) :: a1.env, [(2, [(vI 0),(vS []),(vI 0)]),(1000000, bGL1Cur y.2)]⟩) h (OK_sL1Below p0 6) kr kr kr kr (fun y => by kernel_rfl) (fun y => by kernel_rfl) ?_)
 clear h; intro y1 h
 refine nx (bi (so ?_))
 let a2:St:=⟨(5,(vB (decide (y1.1 = 0)))) :: (6,(vB (decide (y1.1 = 0)))) :: (4,(vI y1.1)) :: a1.env, [(2, [(vI 0),(vS []),(vI 0)]),(1000000, bGL1Cur y1.2)]⟩
 refine st 2 a2 (nx ?_)
 refine cd h (fun h => ?_) fun h => ?_
 refine so (callg_step ⟨[], [], [], [], [], [(2000000, 7)], [], [7], []⟩ (m:=sL2Words) (S':=fun (y:(List (List UInt8))) => ⟨(7,(.osl 7 9 1 (y.map cStr))) :: a2.env, a2.bx⟩) h (OK_sL2Words) kr kr kr kr (fun y => by kernel_rfl) (fun y => by kernel_rfl) ?_)
 clear h; intro y2 h
 let a3:St:=a2.p [(8,(.ptr 1000000 0)),(7,(.osl 7 9 1 (y2.map cStr)))]
 refine st 1 a3 (callg_step ⟨[(1000000, 1000000)], [], [], [], [], [], [], [], []⟩ (m:=sL1Below y1.2 28) (S':=fun (y:Int × GL1Cur) => ⟨(9,(vI y.1)) :: a3.env, [(2, [(vI 0),(vS []),(vI 0)]),(1000000, bGL1Cur y.2)]⟩) h (OK_sL1Below y1.2 28) kr kr kr kr (fun y => by kernel_rfl) (fun y => by kernel_rfl) ?_)
 clear h; intro y3 h
 let a4:St:=⟨(10,(vI (IntKind.wrap .i64 (1 + y3.1)))) :: (9,(vI y3.1)) :: a3.env, [(2, [(vI 0),(vS []),(vI 0)]),(1000000, bGL1Cur y3.2)]⟩
 refine st 1 a4 (vs (fun (y:(List UInt8)) => (.rp [(.s (bs y))])) h (fun y hy => via (l:=y2) (f:=cStr) (g:=cStr) (k:=.i64) hy (fun _ => rfl)) fun y4 h => ?_)
 let a5:St:=⟨(13,(vGToken (GToken.mk 1 y4 0))) :: (12,(vS y4)) :: (11,(.rp [(.s (bs y4))])) :: a4.env, [(2, bGToken (GToken.mk 1 y4 0)),(1000000, bGL1Cur y3.2)]⟩
 refine st 3 a5 (nx (ri (br (tr ?_))))
 injection h with h; subst h
 exact ret1_step (v:=(vGToken (GToken.mk 1 y4 0))) kr kr ⟨by kernel_rfl, by kernel_rfl, trivial⟩
 refine so ?_
 let a6:St:=a2.p [(14,(vB (decide (y1.1 = 1)))),(15,(vB (decide (y1.1 = 1))))]
 refine st 2 a6 (nx ?_)
 refine cd h (fun h => ?_) fun h => ?_
 refine so ?_
 let a7:St:=a6.p [(16,(.ptr 1000000 0))]
 refine st 1 a7 (callg_step ⟨[(1000000, 1000000)], [], [], [], [], [], [], [], []⟩ (m:=sL2Name y1.2) (S':=fun (y:(List UInt8) × GL1Cur) => ⟨(17,(vS y.1)) :: a7.env, [(2, [(vI 0),(vS []),(vI 0)]),(1000000, bGL1Cur y.2)]⟩) h (OK_sL2Name y1.2) kr kr kr kr (fun y => by kernel_rfl) (fun y => by kernel_rfl) ?_)
 clear h; intro y5 h
 let a8:St:=⟨(18,(vGToken (GToken.mk 2 y5.1 0))) :: (17,(vS y5.1)) :: a7.env, [(2, bGToken (GToken.mk 2 y5.1 0)),(1000000, bGL1Cur y5.2)]⟩
 refine st 2 a8 (nx (ri (br (tr ?_))))
 injection h with h; subst h
 exact ret1_step (v:=(vGToken (GToken.mk 2 y5.1 0))) kr kr ⟨by kernel_rfl, by kernel_rfl, trivial⟩
 refine so ?_
 let a9:St:=a6.p [(19,(vB (decide (y1.1 = 2)))),(20,(vB (decide (y1.1 = 2))))]
 refine st 2 a9 (nx ?_)
 refine cd h (fun h => ?_) fun h => ?_
 refine so ?_
 let a10:St:=a9.p [(21,(.ptr 1000000 0))]
 refine st 1 a10 (callg_step ⟨[(1000000, 1000000)], [], [], [], [], [], [], [], []⟩ (m:=sL1Whole y1.2) (S':=fun (y:Int × GL1Cur) => ⟨(22,(vI y.1)) :: a10.env, [(2, [(vI 0),(vS []),(vI 0)]),(1000000, bGL1Cur y.2)]⟩) h (OK_sL1Whole y1.2) kr kr kr kr (fun y => by kernel_rfl) (fun y => by kernel_rfl) ?_)
 clear h; intro y6 h
 refine cs h (OK_sL1Max 0 y6.1) fun y7 h => (cs h (OK_sDigits y7) fun y8 h => ?_)
 let a11:St:=⟨(25,(vGToken (GToken.mk 3 y8 0))) :: (24,(vS y8)) :: (23,(vI y7)) :: (22,(vI y6.1)) :: a10.env, [(2, bGToken (GToken.mk 3 y8 0)),(1000000, bGL1Cur y6.2)]⟩
 refine st 2 a11 (nx (ri (br (tr ?_))))
 injection h with h; subst h
 exact ret1_step (v:=(vGToken (GToken.mk 3 y8 0))) kr kr ⟨by kernel_rfl, by kernel_rfl, trivial⟩
 refine so ?_
 let a12:St:=a9.p [(26,(vB (decide (y1.1 = 3)))),(27,(vB (decide (y1.1 = 3))))]
 refine st 2 a12 (nx ?_)
 refine cd h (fun h => ?_) fun h => ?_
 refine so ?_
 let a13:St:=a12.p [(28,(.ptr 1000000 0))]
 refine st 1 a13 (bsl_step (l:=([[], [120], [105, 116, 39, 115], [39, 39], [116, 119, 111, 32, 119, 111, 114, 100, 115], [34], [45, 45], [0, 255]]:List (List UInt8))) (f:=cStr) (g:=cStr) kr (fun _ => rfl) kr ?_)
 refine callg_step ⟨[(1000000, 1000000)], [], [], [], [], [], [], [], []⟩ (m:=sL1Pick y1.2 ([[], [120], [105, 116, 39, 115], [39, 39], [116, 119, 111, 32, 119, 111, 114, 100, 115], [34], [45, 45], [0, 255]]:List (List UInt8))) (S':=fun (y:(List UInt8) × GL1Cur) => ⟨(30,(vS y.1)) :: (29,(.osl 29 9 1 (([[], [120], [105, 116, 39, 115], [39, 39], [116, 119, 111, 32, 119, 111, 114, 100, 115], [34], [45, 45], [0, 255]]:List (List UInt8)).map cStr))) :: a13.env, [(2, [(vI 0),(vS []),(vI 0)]),(1000000, bGL1Cur y.2)]⟩) h (OK_sL1Pick y1.2 ([[], [120], [105, 116, 39, 115], [39, 39], [116, 119, 111, 32, 119, 111, 114, 100, 115], [34], [45, 45], [0, 255]]:List (List UInt8))) kr kr kr kr (fun y => by kernel_rfl) (fun y => by kernel_rfl) ?_
 clear h; intro y9 h
 let a14:St:=⟨(31,(vGToken (GToken.mk 4 y9.1 0))) :: (30,(vS y9.1)) :: (29,(.osl 29 9 1 (([[], [120], [105, 116, 39, 115], [39, 39], [116, 119, 111, 32, 119, 111, 114, 100, 115], [34], [45, 45], [0, 255]]:List (List UInt8)).map cStr))) :: a13.env, [(2, bGToken (GToken.mk 4 y9.1 0)),(1000000, bGL1Cur y9.2)]⟩
 refine st 2 a14 (nx (ri (br (tr ?_))))
 injection h with h; subst h
 exact ret1_step (v:=(vGToken (GToken.mk 4 y9.1 0))) kr kr ⟨by kernel_rfl, by kernel_rfl, trivial⟩
 refine ki (bn (xi (so ?_)))
 let a15:St:=a12.p [(32,(.ptr 1000000 0))]
 refine st 1 a15 (callg_step ⟨[(1000000, 1000000)], [], [], [], [], [], [], [], []⟩ (m:=sL3Sign y1.2) (S':=fun (y:(List UInt8) × GL1Cur) => ⟨(33,(vS y.1)) :: a15.env, [(2, [(vI 0),(vS []),(vI 0)]),(1000000, bGL1Cur y.2)]⟩) h (OK_sL3Sign y1.2) kr kr kr kr (fun y => by kernel_rfl) (fun y => by kernel_rfl) ?_)
 clear h; intro y10 h
 let a16:St:=⟨(34,(vGToken (GToken.mk 5 y10.1 0))) :: (33,(vS y10.1)) :: a15.env, [(2, bGToken (GToken.mk 5 y10.1 0)),(1000000, bGL1Cur y10.2)]⟩
 refine st 2 a16 (nx (ri ?_))
 injection h with h; subst h
 exact ret1_step (v:=(vGToken (GToken.mk 5 y10.1 0))) kr kr ⟨by kernel_rfl, by kernel_rfl, trivial⟩
theorem OKs_sL2Quote_J1 (p0:(List UInt8)) (p1:Int):(∀ (x6:Int) (x5_3:(List Int)) (r:(List UInt8)), sL2Quote_J1 p0 p1 x6 x5_3 = some r → avc Tryz.prog acsL2Quote_J1 (qsL2Quote_4 r) (stsL2Quote_J1 p0 p1 x6 x5_3)) ∧ (∀ (x5:(List Int)) (x6:Int) (r:(List UInt8)), sL2Quote_L0 p0 p1 x5 x6 = some r → avc Tryz.prog acsL2Quote_L0 (qsL2Quote_1 r) (stsL2Quote_L0 p0 p1 x5 x6)):=by
 refine sL2Quote_J1.mutual_partial_correctness p0 p1 (fun x6 x5_3 r => avc Tryz.prog acsL2Quote_J1 (qsL2Quote_4 r) (stsL2Quote_J1 p0 p1 x6 x5_3)) (fun x5 x6 r => avc Tryz.prog acsL2Quote_L0 (qsL2Quote_1 r) (stsL2Quote_L0 p0 p1 x5 x6)) ?_ ?_
 · intro F_sL2Quote_L0 OK_sL2Quote_L0 x6 x5_3 r h
   delta acsL2Quote_J1
   refine oi ?_
   let a11:St:=(stsL2Quote_J1 p0 p1 x6 x5_3).p [(26,(vI x6)),(25,(vS p0)),(24,(.osl 5 5 1 (x5_3.map cU8)))]
   refine st 3 a11 (vs (fun (y:Int) => (.d (.i .u8 y))) h (fun y hy => vop_ix (b:=p0) (k:=.i64) hy kr kr kr) fun y6 h => (bsl_step (l:=([y6]:List Int)) (f:=cU8) (g:=cU8) kr (fun _ => rfl) kr ?_))
   refine app_step (t:=5) (l:=x5_3) (m:=([y6]:List Int)) (f:=cU8) (S':=fun y => ⟨[(29,(.osl 29 5 1 (y.map cU8))),(28,(.osl 28 5 1 (([y6]:List Int).map cU8))),(27,(.d (.i .u8 y6))),(26,(vI x6)),(25,(vS p0)),(24,(.d (.sl 1 (x5_3.map cU8)))),(0,(vS p0)),(1,(.d (.i .u8 p1))),(5,(.d (.sl 1 (x5_3.map cU8)))),(6,(vI x6))], []⟩) h kr kr kr kr (fun y => by kernel_rfl) ?_
   clear h; intro y7 h
   let a12:St:=⟨[(5,(.osl 5 5 1 (y7.map cU8))),(29,(.d (.sl 1 (y7.map cU8)))),(28,(.osl 28 5 1 (([y6]:List Int).map cU8))),(27,(.d (.i .u8 y6))),(26,(vI x6)),(25,(vS p0)),(24,(.d (.sl 1 (x5_3.map cU8)))),(0,(vS p0)),(1,(.d (.i .u8 p1))),(5,(.d (.sl 1 (x5_3.map cU8)))),(6,(vI x6))], []⟩
   refine st 1 a12 (ni (bn (xi (oi ?_))))
   let a13:St:=a12.p [(6,(vI (IntKind.wrap .i64 (x6 + 1)))),(14,(vI (IntKind.wrap .i64 (x6 + 1)))),(13,(vI x6))]
   exact st 3 a13 (ni (loop_back (s':=stsL2Quote_L0 p0 p1 y7 (IntKind.wrap .i64 (x6 + 1))) (wr [(5, .old 5)] (es (es (eo 5 (es er_nil)))) br_nil) (OK_sL2Quote_L0 y7 (IntKind.wrap .i64 (x6 + 1)) _ h)))
 · intro F_sL2Quote_J1 OK_sL2Quote_J1 x5 x6 r h
   delta acsL2Quote_L0
   refine loop_unroll (si (so ?_))
   let a4:St:=(stsL2Quote_L0 p0 p1 x5 x6).p [(12,(vB (decide (x6 < (ln p0))))),(11,(vI (ln p0))),(10,(vS p0)),(9,(vI x6))]
   refine st 4 a4 (nx ?_)
   refine cd h (fun h => ?_) fun h => ?_
   refine ki (xi (si (bi (si (so ?_)))))
   let a5:St:=a4.p [(16,(vI x6)),(15,(vS p0))]
   refine st 2 a5 (vs (fun (y:Int) => (.d (.i .u8 y))) h (fun y hy => vop_ix (b:=p0) (k:=.i64) hy kr kr kr) fun y1 h => ?_)
   let a6:St:=a5.p [(19,(vB (decide (y1 = p1)))),(18,(.d (.i .u8 p1))),(17,(.d (.i .u8 y1)))]
   refine st 2 a6 (nx ?_)
   refine cd h (fun h => ?_) fun h => ?_
   refine oi ?_
   let a7:St:=a6.p [(21,(.d (.i .u8 p1))),(20,(.osl 5 5 1 (x5.map cU8)))]
   refine st 2 a7 (bsl_step (l:=([p1]:List Int)) (f:=cU8) (g:=cU8) kr (fun _ => rfl) kr ?_)
   refine app_step (t:=5) (l:=x5) (m:=([p1]:List Int)) (f:=cU8) (S':=fun y => ⟨[(23,(.osl 23 5 1 (y.map cU8))),(22,(.osl 22 5 1 (([p1]:List Int).map cU8))),(21,(.d (.i .u8 p1))),(20,(.d (.sl 1 (x5.map cU8)))),(19,(vB (decide (y1 = p1)))),(18,(.d (.i .u8 p1))),(17,(.d (.i .u8 y1))),(16,(vI x6)),(15,(vS p0)),(12,(vB (decide (x6 < (ln p0))))),(11,(vI (ln p0))),(10,(vS p0)),(9,(vI x6)),(0,(vS p0)),(1,(.d (.i .u8 p1))),(5,(.d (.sl 1 (x5.map cU8)))),(6,(vI x6))], []⟩) h kr kr kr kr (fun y => by kernel_rfl) ?_
   clear h; intro y2 h
   let a8:St:=⟨[(5,(.osl 5 5 1 (y2.map cU8))),(23,(.d (.sl 1 (y2.map cU8)))),(22,(.osl 22 5 1 (([p1]:List Int).map cU8))),(21,(.d (.i .u8 p1))),(20,(.d (.sl 1 (x5.map cU8)))),(19,(vB (decide (y1 = p1)))),(18,(.d (.i .u8 p1))),(17,(.d (.i .u8 y1))),(16,(vI x6)),(15,(vS p0)),(12,(vB (decide (x6 < (ln p0))))),(11,(vI (ln p0))),(10,(vS p0)),(9,(vI x6)),(0,(vS p0)),(1,(.d (.i .u8 p1))),(5,(.d (.sl 1 (x5.map cU8)))),(6,(vI x6))], []⟩
   exact st 1 a8 (ni (next_step (s':=stsL2Quote_J1 p0 p1 x6 y2) (wr [(5, .old 5)] (es (es (eo 5 (es er_nil)))) br_nil) (OK_sL2Quote_J1 x6 y2 _ h)))
   exact ki (next_step (s':=stsL2Quote_J1 p0 p1 x6 x5) (wr [(5, .old 5)] (es (es (eo 5 (es er_nil)))) br_nil) (OK_sL2Quote_J1 x6 x5 _ h))
   refine ei (te (te (bh (xi (so ?_)))))
   let a9:St:=a4.p [(31,(.d (.i .u8 p1))),(30,(.osl 5 5 1 (x5.map cU8)))]
   refine st 2 a9 (bsl_step (l:=([p1]:List Int)) (f:=cU8) (g:=cU8) kr (fun _ => rfl) kr ?_)
   refine app_step (t:=5) (l:=x5) (m:=([p1]:List Int)) (f:=cU8) (S':=fun y => ⟨[(33,(.osl 33 5 1 (y.map cU8))),(32,(.osl 32 5 1 (([p1]:List Int).map cU8))),(31,(.d (.i .u8 p1))),(30,(.d (.sl 1 (x5.map cU8)))),(12,(vB (decide (x6 < (ln p0))))),(11,(vI (ln p0))),(10,(vS p0)),(9,(vI x6)),(0,(vS p0)),(1,(.d (.i .u8 p1))),(5,(.d (.sl 1 (x5.map cU8)))),(6,(vI x6))], []⟩) h kr kr kr kr (fun y => by kernel_rfl) ?_
   clear h; intro y4 h
   refine vs (fun (y:(List UInt8)) => (vS y)) h (fun y hy => vop_cbs (l:=y4) hy kr kr) fun y5 h => ?_
   let a10:St:=⟨[(4,(vS y5)),(34,(vS y5)),(33,(.osl 33 5 1 (y4.map cU8))),(32,(.osl 32 5 1 (([p1]:List Int).map cU8))),(31,(.d (.i .u8 p1))),(30,(.d (.sl 1 (x5.map cU8)))),(12,(vB (decide (x6 < (ln p0))))),(11,(vI (ln p0))),(10,(vS p0)),(9,(vI x6)),(0,(vS p0)),(1,(.d (.i .u8 p1))),(5,(.d (.sl 1 (x5.map cU8)))),(6,(vI x6))], []⟩
   refine st 1 a10 (nx (ri ?_))
   injection h with h; subst h
   exact r1 (v:=(vS y5))
theorem OK_sL2Quote_J1 (p0:(List UInt8)) (p1:Int) (x6:Int) (x5_3:(List Int)) (r:(List UInt8)) (h:sL2Quote_J1 p0 p1 x6 x5_3 = some r):avc Tryz.prog acsL2Quote_J1 (qsL2Quote_4 r) (stsL2Quote_J1 p0 p1 x6 x5_3):=(OKs_sL2Quote_J1 p0 p1).1 x6 x5_3 r h
theorem OK_sL2Quote_L0 (p0:(List UInt8)) (p1:Int) (x5:(List Int)) (x6:Int) (r:(List UInt8)) (h:sL2Quote_L0 p0 p1 x5 x6 = some r):avc Tryz.prog acsL2Quote_L0 (qsL2Quote_1 r) (stsL2Quote_L0 p0 p1 x5 x6):=(OKs_sL2Quote_J1 p0 p1).2 x5 x6 r h
theorem OK_sL2Quote (p0:(List UInt8)) (p1:Int):FOk Tryz.prog 133 [(vS p0),(.d (.i .u8 p1))] (fun y => (vS y)) (sL2Quote p0 p1):=by
 intro r h
 rw [sL2Quote] at h
 refine aof trsL2Quote ?_
 show avc Tryz.prog acsL2Quote (qsL2Quote _) ⟨[(0,(vS p0)),(1,(.d (.i .u8 p1)))], []⟩
 delta acsL2Quote
 refine so ?_
 let a0:St:=⟨[(4,(vS [])),(0,(vS p0)),(1,(.d (.i .u8 p1)))], []⟩
 refine st 1 a0 (nx (so ?_))
 let a1:St:=a0.p [(7,(.d (.i .u8 p1)))]
 refine st 1 a1 (bsl_step (l:=([p1]:List Int)) (f:=cU8) (g:=cU8) kr (fun _ => rfl) kr ?_)
 let a2:St:=a1.p [(5,(.osl 5 5 1 (([p1]:List Int).map cU8))),(8,(.d (.sl 1 (([p1]:List Int).map cU8))))]
 refine st 1 a2 (nx (si (so ?_)))
 let a3:St:=a2.p [(6,(vI 0))]
 exact st 1 a3 (nx (bi (loop_go (s':=stsL2Quote_L0 p0 p1 ([p1]:List Int) 0) (wr [(5, .old 5)] (es (es (eo 5 (es er_nil)))) br_nil) (OK_sL2Quote_L0 p0 p1 ([p1]:List Int) 0 _ h))))
theorem OK_sL1In (p0:Int) (p1:Int) (p2:Int):FOk Tryz.prog 76 [(vI p0),(vI p1),(vI p2)] (fun y => (vB y)) (sL1In p0 p1 p2):=by
 intro r h
 rw [sL1In] at h
 refine aof trsL1In ?_
 show avc Tryz.prog acsL1In (qsL1In _) ⟨[(0,(vI p0)),(1,(vI p1)),(2,(vI p2))], []⟩
 delta acsL1In
 refine so ?_
 let a0:St:=⟨[(6,(vB false)),(0,(vI p0)),(1,(vI p1)),(2,(vI p2))], []⟩
 refine st 1 a0 (nx (so ?_))
 let a1:St:=a0.p [(10,(vB (decide (p1 ≤ p0)))),(9,(vB (decide (p1 ≤ p0)))),(8,(vI p1)),(7,(vI p0))]
 refine st 4 a1 (gp true (decide (p1 ≤ p0)) (vI p0) (fun hc => vl) (gp true (decide (p1 ≤ p0)) (vI p2) (fun hc => vl) (gp true (decide (p1 ≤ p0)) (vB (decide (p0 ≤ p2))) (fun hc => vop_val1 (Eq.trans (b:=([(true && ((decide (p1 ≤ p0)) == true)),(true && ((decide (p1 ≤ p0)) == true))]:List Bool).all id) kr (all_c hc (all_c hc rfl))) kr) ?_)))
 refine vs (fun (y:Bool) => (vB y)) h (fun y hy => vop_pickV hy (p:=(true && ((decide (p1 ≤ p0)) == true))) (q:=true) kr kr kr kr (fun hb => gc_t rfl hb) (fun _ => rfl)) fun y1 h => ?_
 let a2:St:=a1.p [(6,(vB y1)),(14,(vB y1)),(13,(.ite (true && ((decide (p1 ≤ p0)) == true)) (vB (decide (p0 ≤ p2))))),(12,(.ite (true && ((decide (p1 ≤ p0)) == true)) (vI p2))),(11,(.ite (true && ((decide (p1 ≤ p0)) == true)) (vI p0)))]
 refine st 1 a2 (nx (ri ?_))
 injection h with h; subst h
 exact r1 (v:=(vB y1))
theorem OK_sNameOk (p0:(List UInt8)):FOk Tryz.prog 74 [(vS p0)] (fun y => (vB y)) (sNameOk p0):=by
 intro r h
 rw [sNameOk] at h
 refine aof trsNameOk ?_
 show avc Tryz.prog acsNameOk (qsNameOk _) ⟨[(0,(vS p0))], []⟩
 delta acsNameOk
 refine so ?_
 let a0:St:=⟨[(2,(vB false)),(0,(vS p0))], []⟩
 refine st 1 a0 (nx (so ?_))
 let a1:St:=a0.p [(4,(vI (ln p0))),(3,(vS p0))]
 refine st 2 a1 (cs h (OK_sL1In (ln p0) 1 20) fun y1 h => ?_)
 let a2:St:=a1.p [(2,(vB y1)),(5,(vB y1))]
 refine st 1 a2 (nx (ri ?_))
 injection h with h; subst h
 exact r1 (v:=(vB y1))
theorem OKs_sKeyOf_L0 (y1:(List UInt8)) (y2:(List (List UInt8))):(∀ (x5:Int) (r:Int), sKeyOf_L0 y1 y2 x5 = some r → avc Tryz.prog acsKeyOf_L0 (qsKeyOf_1 r) (stsKeyOf_L0 y1 y2 x5)):=by
 refine sKeyOf_L0.partial_correctness y1 y2 (fun x5 r => avc Tryz.prog acsKeyOf_L0 (qsKeyOf_1 r) (stsKeyOf_L0 y1 y2 x5)) ?_
 · intro F_sKeyOf_L0 OK_sKeyOf_L0 x5 r h
   delta acsKeyOf_L0
   refine loop_unroll (si (so ?_))
   let a7:St:=(stsKeyOf_L0 y1 y2 x5).p [(13,(.osl 4 9 1 (y2.map cStr))),(12,(vI x5))]
   refine st 2 a7 (ps (vI (ln y2)) (vln (sz:=1) (l:=y2) (f:=cStr)) ?_)
   let a8:St:=a7.p [(15,(vB (decide (x5 < (ln y2))))),(14,(vI (ln y2)))]
   refine st 1 a8 (nx ?_)
   refine cd h (fun h => ?_) fun h => ?_
   refine ki (xi (si (bi (so ?_))))
   let a9:St:=a8.p [(19,(vI x5)),(18,(.osl 4 9 1 (y2.map cStr)))]
   refine st 2 a9 (vs (fun (y:(List UInt8)) => (.rp [(.s (bs y))])) h (fun y hy => via (l:=y2) (f:=cStr) (g:=cStr) (k:=.i64) hy (fun _ => rfl)) fun y3 h => ?_)
   let a10:St:=a9.p [(23,(vB (decide (y3 = y1)))),(22,(vS y1)),(21,(vS y3)),(20,(.rp [(.s (bs y3))]))]
   refine st 3 a10 (nx ?_)
   refine cd h (fun h => ?_) fun h => ?_
   refine so ?_
   let a11:St:=a10.p [(2,(vI x5)),(24,(vI x5))]
   refine st 2 a11 (nx (ri (br (tr (tr (br (tr ?_)))))))
   injection h with h; subst h
   exact r1 (v:=(vI x5))
   refine ki (bn (xi (oi ?_)))
   let a12:St:=a10.p [(5,(vI (IntKind.wrap .i64 (x5 + 1)))),(17,(vI (IntKind.wrap .i64 (x5 + 1)))),(16,(vI x5))]
   exact st 3 a12 (ni (loop_back (s':=stsKeyOf_L0 y1 y2 (IntKind.wrap .i64 (x5 + 1))) (wr [(4, .old 4)] (es (eo 4 (es er_nil))) br_nil) (OK_sKeyOf_L0 (IntKind.wrap .i64 (x5 + 1)) _ h)))
   refine ei (te (te (bh (xi (so ?_)))))
   let a13:St:=a8.p [(2,(vI 0))]
   refine st 1 a13 (nx (ri ?_))
   injection h with h; subst h
   exact r1 (v:=(vI 0))
theorem OK_sKeyOf_L0 (y1:(List UInt8)) (y2:(List (List UInt8))) (x5:Int) (r:Int) (h:sKeyOf_L0 y1 y2 x5 = some r):avc Tryz.prog acsKeyOf_L0 (qsKeyOf_1 r) (stsKeyOf_L0 y1 y2 x5):=(OKs_sKeyOf_L0 y1 y2) x5 r h
theorem OK_sKeyOf (p0:(List UInt8)):FOk Tryz.prog 93 [(vS p0)] (fun y => (vI y)) (sKeyOf p0):=by
 intro r h
 rw [sKeyOf] at h
 refine aof trsKeyOf ?_
 show avc Tryz.prog acsKeyOf (qsKeyOf _) ⟨[(0,(vS p0))], []⟩
 delta acsKeyOf
 refine so ?_
 let a0:St:=⟨[(2,(vI 0)),(0,(vS p0))], []⟩
 refine st 1 a0 (nx (si (so ?_)))
 let a1:St:=a0.p [(8,(vB (decide (8 < (ln p0))))),(7,(vI (ln p0))),(6,(vS p0))]
 refine st 3 a1 (nx ?_)
 refine cd h (fun h => ?_) fun h => ?_
 refine so ?_
 let a2:St:=a1.p [(2,(vI 0))]
 refine st 1 a2 (nx (ri (tr ?_)))
 injection h with h; subst h
 exact r1 (v:=(vI 0))
 refine ki (xi (so ?_))
 let a3:St:=a1.p [(9,(vS p0))]
 refine st 1 a3 (cs h (OK_sFold p0) fun y1 h => ?_)
 let a4:St:=a3.p [(3,(vS y1)),(10,(vS y1))]
 refine st 1 a4 (nx (so (callg_step ⟨[], [], [], [], [], [(2000000, 11)], [], [11], []⟩ (m:=sL2Words) (S':=fun (y:(List (List UInt8))) => ⟨(11,(.osl 11 9 1 (y.map cStr))) :: a4.env, a4.bx⟩) h (OK_sL2Words) kr kr kr kr (fun y => by kernel_rfl) (fun y => by kernel_rfl) ?_)))
 clear h; intro y2 h
 let a5:St:=a4.p [(4,(.osl 4 9 1 (y2.map cStr))),(11,(.d (.sl 1 (y2.map cStr))))]
 refine st 1 a5 (nx (si (so ?_)))
 let a6:St:=a5.p [(5,(vI 1))]
 exact st 1 a6 (nx (bi (loop_go (s':=stsKeyOf_L0 y1 y2 1) (wr [(4, .old 4)] (es (eo 4 (es er_nil))) br_nil) (OK_sKeyOf_L0 y1 y2 1 _ h))))
theorem OK_sL2Figure (p0:Int):FOk Tryz.prog 118 [(.d (.i .u8 p0))] (fun y => (vB y)) (sL2Figure p0):=by
 intro r h
 rw [sL2Figure] at h
 refine aof trsL2Figure ?_
 show avc Tryz.prog acsL2Figure (qsL2Figure _) ⟨[(0,(.d (.i .u8 p0)))], []⟩
 delta acsL2Figure
 refine so ?_
 let a0:St:=⟨[(2,(vB false)),(0,(.d (.i .u8 p0)))], []⟩
 refine st 1 a0 (nx (so ?_))
 let a1:St:=a0.p [(5,(vB (decide (48 ≤ p0)))),(4,(vB (decide (48 ≤ p0)))),(3,(.d (.i .u8 p0)))]
 refine st 3 a1 (gp true (decide (48 ≤ p0)) (.d (.i .u8 p0)) (fun hc => vl) (gp true (decide (48 ≤ p0)) (vB (decide (p0 ≤ 57))) (fun hc => vg hc) (vs (fun (y:Bool) => (vB y)) h (fun y hy => vop_pickV hy (p:=(true && ((decide (48 ≤ p0)) == true))) (q:=true) kr kr kr kr (fun hb => gc_t rfl hb) (fun _ => rfl)) fun y1 h => ?_)))
 let a2:St:=a1.p [(2,(vB y1)),(8,(vB y1)),(7,(.ite (true && ((decide (48 ≤ p0)) == true)) (vB (decide (p0 ≤ 57))))),(6,(.ite (true && ((decide (48 ≤ p0)) == true)) (.d (.i .u8 p0))))]
 refine st 1 a2 (nx (ri ?_))
 injection h with h; subst h
 exact r1 (v:=(vB y1))
theorem OK_sL2Letter (p0:Int):FOk Tryz.prog 116 [(.d (.i .u8 p0))] (fun y => (vB y)) (sL2Letter p0):=by
 intro r h
 rw [sL2Letter] at h
 refine aof trsL2Letter ?_
 show avc Tryz.prog acsL2Letter (qsL2Letter _) ⟨[(0,(.d (.i .u8 p0)))], []⟩
 delta acsL2Letter
 refine so ?_
 let a0:St:=⟨[(2,(vB false)),(0,(.d (.i .u8 p0)))], []⟩
 refine st 1 a0 (nx (so ?_))
 let a1:St:=a0.p [(5,(vB (decide (97 ≤ p0)))),(4,(vB (decide (97 ≤ p0)))),(3,(.d (.i .u8 p0)))]
 refine st 3 a1 (gp true (decide (97 ≤ p0)) (.d (.i .u8 p0)) (fun hc => vl) (gp true (decide (97 ≤ p0)) (vB (decide (p0 ≤ 122))) (fun hc => vg hc) (vs (fun (y:Bool) => (vB y)) h (fun y hy => vop_pickV hy (p:=(true && ((decide (97 ≤ p0)) == true))) (q:=true) kr kr kr kr (fun hb => gc_t rfl hb) (fun _ => rfl)) fun y1 h => ?_)))
 let a2:St:=a1.p [(9,(vB y1)),(8,(vB y1)),(7,(.ite (true && ((decide (97 ≤ p0)) == true)) (vB (decide (p0 ≤ 122))))),(6,(.ite (true && ((decide (97 ≤ p0)) == true)) (.d (.i .u8 p0))))]
 refine st 1 a2 (gp true y1 (.d (.i .u8 p0)) (fun hc => vl) (gp true y1 (vB (decide (65 ≤ p0))) (fun hc => vg hc) (gp true y1 (vB (decide (65 ≤ p0))) (fun hc => vg hc) (gp (true && (y1 == false)) (decide (65 ≤ p0)) (.d (.i .u8 p0)) (fun hc => vl) (gp (true && (y1 == false)) (decide (65 ≤ p0)) (vB (decide (p0 ≤ 90))) (fun hc => vg hc) ?_)))))
 refine gv true y1 (fun (y:Bool) => (vB y)) h (fun y hy hc => vop_pickV hy (p:=((true && (y1 == false)) && ((decide (65 ≤ p0)) == true))) (q:=true) (Eq.trans (b:=([(true && (y1 == false))]:List Bool).all id) kr (all_c hc rfl)) kr kr kr (fun hb => gc_t hc hb) (fun _ => rfl)) fun y2 h => ?_
 refine vs (fun (y:Bool) => (vB y)) h (fun y hy => vop_pickV hy (p:=true) (q:=(true && (y1 == false))) kr kr kr kr (fun _ => rfl) (fun hb => gc_f rfl hb)) fun y3 h => ?_
 let a3:St:=a2.p [(17,(vB y3)),(16,(vB y3)),(15,(.ite (gF y1) (vB y2))),(14,(.ite ((gF y1) && ((decide (65 ≤ p0)) == true)) (vB (decide (p0 ≤ 90))))),(13,(.ite ((gF y1) && ((decide (65 ≤ p0)) == true)) (.d (.i .u8 p0)))),(12,(.ite (gF y1) (vB (decide (65 ≤ p0))))),(11,(.ite (gF y1) (vB (decide (65 ≤ p0))))),(10,(.ite (gF y1) (.d (.i .u8 p0))))]
 refine st 1 a3 (gp true y3 (.d (.i .u8 p0)) (fun hc => vl) (gp true y3 (vB (decide (p0 = 95))) (fun hc => vg hc) (vs (fun (y:Bool) => (vB y)) h (fun y hy => vop_pickV hy (p:=true) (q:=(true && (y3 == false))) kr kr kr kr (fun _ => rfl) (fun hb => gc_f rfl hb)) fun y4 h => ?_)))
 let a4:St:=a3.p [(2,(vB y4)),(20,(vB y4)),(19,(.ite (gF y3) (vB (decide (p0 = 95))))),(18,(.ite (gF y3) (.d (.i .u8 p0))))]
 refine st 1 a4 (nx (ri ?_))
 injection h with h; subst h
 exact r1 (v:=(vB y4))
theorem OKs_sPlainName_L0 (p0:(List UInt8)):(∀ (x3:Int) (r:Bool), sPlainName_L0 p0 x3 = some r → avc Tryz.prog acsPlainName_L0 (qsPlainName_1 r) (stsPlainName_L0 p0 x3)):=by
 refine sPlainName_L0.partial_correctness p0 (fun x3 r => avc Tryz.prog acsPlainName_L0 (qsPlainName_1 r) (stsPlainName_L0 p0 x3)) ?_
 · intro F_sPlainName_L0 OK_sPlainName_L0 x3 r h
   delta acsPlainName_L0
   refine loop_unroll (si (so ?_))
   let a6:St:=(stsPlainName_L0 p0 x3).p [(20,(vB (decide (x3 < (ln p0))))),(19,(vI (ln p0))),(18,(vS p0)),(17,(vI x3))]
   refine st 4 a6 (nx ?_)
   refine cd h (fun h => ?_) fun h => ?_
   refine ki (xi (si (bi (so ?_))))
   let a7:St:=a6.p [(24,(vI x3)),(23,(vS p0))]
   refine st 2 a7 (vs (fun (y:Int) => (.d (.i .u8 y))) h (fun y hy => vop_ix (b:=p0) (k:=.i64) hy kr kr kr) fun y7 h => (cs h (OK_sL2Letter y7) fun y8 h => ?_))
   let a8:St:=a7.p [(28,(vB (!y8))),(27,(vB (!y8))),(26,(vB y8)),(25,(.d (.i .u8 y7)))]
   refine st 2 a8 (gp true (!y8) (vS p0) (fun hc => vl) (gp true (!y8) (vI x3) (fun hc => vl) (gv true (!y8) (fun (y:Int) => (.d (.i .u8 y))) h (fun y hy hc => vop_ix (b:=p0) (k:=.i64) hy (Eq.trans (b:=([(true && ((!y8) == true)),(true && ((!y8) == true))]:List Bool).all id) kr (all_c hc (all_c hc rfl))) kr kr) fun y9 h => ?_)))
   refine gcall_step (p:=true) (b:=(!y8)) (m:=sL2Figure y9) (dflt:=default) (args:=[(.d (.i .u8 y9))]) (v':=(fun y => (vB y))) h kr (OK_sL2Figure y9) (fun hc => by kernel_rfl) kr (fun _ => rfl) (fun hc => (Eq.trans (b:=([(true && ((!y8) == true))]:List Bool).all id) kr (all_c hc rfl))) ?_
   clear h; intro y10 h
   refine gp true (!y8) (vB (!y10)) (fun hc => vg hc) (vs (fun (y:Bool) => (vB y)) h (fun y hy => vop_pickV hy (p:=(true && ((!y8) == true))) (q:=true) kr kr kr kr (fun hb => gc_t rfl hb) (fun _ => rfl)) fun y11 h => (nx ?_))
   refine cd h (fun h => ?_) fun h => ?_
   refine so ?_
   let a9:St:=a8.p [(2,(vB false)),(34,(vB y11)),(33,(.ite (true && ((!y8) == true)) (vB (!y10)))),(32,(.ite (true && ((!y8) == true)) (vB y10))),(31,(.ite (true && ((!y8) == true)) (.d (.i .u8 y9)))),(30,(.ite (true && ((!y8) == true)) (vI x3))),(29,(.ite (true && ((!y8) == true)) (vS p0)))]
   refine st 1 a9 (nx (ri (br (tr (tr (br (tr ?_)))))))
   injection h with h; subst h
   exact r1 (v:=(vB false))
   refine ki (bn (xi (oi ?_)))
   let a10:St:=a8.p [(3,(vI (IntKind.wrap .i64 (x3 + 1)))),(22,(vI (IntKind.wrap .i64 (x3 + 1)))),(21,(vI x3)),(34,(vB y11)),(33,(.ite (true && ((!y8) == true)) (vB (!y10)))),(32,(.ite (true && ((!y8) == true)) (vB y10))),(31,(.ite (true && ((!y8) == true)) (.d (.i .u8 y9)))),(30,(.ite (true && ((!y8) == true)) (vI x3))),(29,(.ite (true && ((!y8) == true)) (vS p0)))]
   exact st 3 a10 (ni (loop_back (s':=stsPlainName_L0 p0 (IntKind.wrap .i64 (x3 + 1))) (wr [] (es (es er_nil)) br_nil) (OK_sPlainName_L0 (IntKind.wrap .i64 (x3 + 1)) _ h)))
   refine ei (te (te (bh (xi (so ?_)))))
   let a11:St:=a6.p [(2,(vB true))]
   refine st 1 a11 (nx (ri ?_))
   injection h with h; subst h
   exact r1 (v:=(vB true))
theorem OK_sPlainName_L0 (p0:(List UInt8)) (x3:Int) (r:Bool) (h:sPlainName_L0 p0 x3 = some r):avc Tryz.prog acsPlainName_L0 (qsPlainName_1 r) (stsPlainName_L0 p0 x3):=(OKs_sPlainName_L0 p0) x3 r h
theorem OK_sPlainName (p0:(List UInt8)):FOk Tryz.prog 132 [(vS p0)] (fun y => (vB y)) (sPlainName p0):=by
 intro r h
 rw [sPlainName] at h
 refine aof trsPlainName ?_
 show avc Tryz.prog acsPlainName (qsPlainName _) ⟨[(0,(vS p0))], []⟩
 delta acsPlainName
 refine so ?_
 let a0:St:=⟨[(2,(vB false)),(0,(vS p0))], []⟩
 refine st 1 a0 (nx (si (so ?_)))
 let a1:St:=a0.p [(4,(vS p0))]
 refine st 1 a1 (cs h (OK_sNameOk p0) fun y1 h => ?_)
 let a2:St:=a1.p [(7,(vB (!y1))),(6,(vB (!y1))),(5,(vB y1))]
 refine st 2 a2 (gp true (!y1) (vS p0) (fun hc => vl) (gv true (!y1) (fun (y:Int) => (.d (.i .u8 y))) h (fun y hy hc => vop_ix (b:=p0) (k:=.i64) hy (Eq.trans (b:=([(true && ((!y1) == false))]:List Bool).all id) kr (all_c hc rfl)) kr kr) fun y2 h => ?_))
 refine gcall_step (p:=true) (b:=(!y1)) (m:=sL2Figure y2) (dflt:=default) (args:=[(.d (.i .u8 y2))]) (v':=(fun y => (vB y))) h kr (OK_sL2Figure y2) (fun hc => by kernel_rfl) kr (fun _ => rfl) (fun hc => (Eq.trans (b:=([(true && ((!y1) == false))]:List Bool).all id) kr (all_c hc rfl))) ?_
 clear h; intro y3 h
 refine vs (fun (y:Bool) => (vB y)) h (fun y hy => vop_pickV hy (p:=true) (q:=(true && ((!y1) == false))) kr kr kr kr (fun _ => rfl) (fun hb => gc_f rfl hb)) fun y4 h => ?_
 let a3:St:=a2.p [(12,(vB y4)),(11,(vB y4)),(10,(.ite (true && ((!y1) == false)) (vB y3))),(9,(.ite (true && ((!y1) == false)) (.d (.i .u8 y2)))),(8,(.ite (true && ((!y1) == false)) (vS p0)))]
 refine st 1 a3 (gp true y4 (vS p0) (fun hc => vl) (gcall_step (p:=true) (b:=y4) (m:=sKeyOf p0) (dflt:=default) (args:=[(vS p0)]) (v':=(fun y => (vI y))) h kr (OK_sKeyOf p0) (fun hc => by kernel_rfl) kr (fun _ => rfl) (fun hc => (Eq.trans (b:=([(true && (y4 == false))]:List Bool).all id) kr (all_c hc rfl))) ?_))
 clear h; intro y5 h
 refine gp true y4 (vB (decide (0 < y5))) (fun hc => vg hc) (vs (fun (y:Bool) => (vB y)) h (fun y hy => vop_pickV hy (p:=true) (q:=(true && (y4 == false))) kr kr kr kr (fun _ => rfl) (fun hb => gc_f rfl hb)) fun y6 h => (nx ?_))
 refine cd h (fun h => ?_) fun h => ?_
 refine so ?_
 let a4:St:=a3.p [(2,(vB false)),(16,(vB y6)),(15,(.ite (gF y4) (vB (decide (0 < y5))))),(14,(.ite (gF y4) (vI y5))),(13,(.ite (gF y4) (vS p0)))]
 refine st 1 a4 (nx (ri (tr ?_)))
 injection h with h; subst h
 exact r1 (v:=(vB false))
 refine ki (xi (si (so ?_)))
 let a5:St:=a3.p [(3,(vI 0)),(16,(vB y6)),(15,(.ite (gF y4) (vB (decide (0 < y5))))),(14,(.ite (gF y4) (vI y5))),(13,(.ite (gF y4) (vS p0)))]
 exact st 1 a5 (nx (bi (loop_go (s':=stsPlainName_L0 p0 0) (wr [] (es (es er_nil)) br_nil) (OK_sPlainName_L0 p0 0 _ h))))
theorem OK_sNameText (p0:(List UInt8)):FOk Tryz.prog 98 [(vS p0)] (fun y => (vS y)) (sNameText p0):=by
 intro r h
 rw [sNameText] at h
 refine aof trsNameText ?_
 show avc Tryz.prog acsNameText (qsNameText _) ⟨[(0,(vS p0))], []⟩
 delta acsNameText
 refine so ?_
 let a0:St:=⟨[(2,(vS [])),(0,(vS p0))], []⟩
 refine st 1 a0 (nx (si (so ?_)))
 let a1:St:=a0.p [(3,(vS p0))]
 refine st 1 a1 (cs h (OK_sNameOk p0) fun y1 h => ?_)
 let a2:St:=a1.p [(5,(vB (!y1))),(4,(vB y1))]
 refine st 1 a2 (nx ?_)
 refine cd h (fun h => ?_) fun h => ?_
 refine so ?_
 let a3:St:=a2.p [(2,(vS []))]
 refine st 1 a3 (nx (ri (tr ?_)))
 injection h with h; subst h
 exact r1 (v:=(vS []))
 refine ki (xi (si (so ?_)))
 let a4:St:=a2.p [(6,(vS p0))]
 refine st 1 a4 (cs h (OK_sPlainName p0) fun y2 h => (nx ?_))
 refine cd h (fun h => ?_) fun h => ?_
 refine so ?_
 let a5:St:=a4.p [(2,(vS p0)),(8,(vS p0)),(7,(vB y2))]
 refine st 2 a5 (nx (ri (tr ?_)))
 injection h with h; subst h
 exact r1 (v:=(vS p0))
 refine ki (xi (so ?_))
 let a6:St:=a4.p [(9,(vS p0)),(7,(vB y2))]
 refine st 1 a6 (cs h (OK_sL2Quote p0 34) fun y3 h => ?_)
 let a7:St:=a6.p [(2,(vS y3)),(10,(vS y3))]
 refine st 1 a7 (nx (ri ?_))
 injection h with h; subst h
 exact r1 (v:=(vS y3))
theorem OK_sQuoteText (p0:(List UInt8)):FOk Tryz.prog 99 [(vS p0)] (fun y => (vS y)) (sQuoteText p0):=by
 intro r h
 rw [sQuoteText] at h
 refine aof trsQuoteText ?_
 show avc Tryz.prog acsQuoteText (qsQuoteText _) ⟨[(0,(vS p0))], []⟩
 delta acsQuoteText
 refine so ?_
 let a0:St:=⟨[(2,(vS [])),(0,(vS p0))], []⟩
 refine st 1 a0 (nx (so ?_))
 let a1:St:=a0.p [(3,(vS p0))]
 refine st 1 a1 (cs h (OK_sL2Quote p0 39) fun y1 h => ?_)
 let a2:St:=a1.p [(2,(vS y1)),(4,(vS y1))]
 refine st 1 a2 (nx (ri ?_))
 injection h with h; subst h
 exact r1 (v:=(vS y1))
theorem OKs_sNumber_L0 (p0:(List UInt8)):(∀ (x4:Int) (x5:Int) (r:Int × Bool), sNumber_L0 p0 x4 x5 = some r → avc Tryz.prog acsNumber_L0 (qsNumber_1 r) (stsNumber_L0 p0 x4 x5)):=by
 refine sNumber_L0.partial_correctness p0 (fun x4 x5 r => avc Tryz.prog acsNumber_L0 (qsNumber_1 r) (stsNumber_L0 p0 x4 x5)) ?_
 · intro F_sNumber_L0 OK_sNumber_L0 x4 x5 r h
   delta acsNumber_L0
   refine loop_unroll (si (so ?_))
   let a5:St:=(stsNumber_L0 p0 x4 x5).p [(18,(vB (decide (x5 < (ln p0))))),(17,(vI (ln p0))),(16,(vS p0)),(15,(vI x5))]
   refine st 4 a5 (nx ?_)
   refine cd h (fun h => ?_) fun h => ?_
   refine ki (xi (si (bi (si (so ?_)))))
   let a6:St:=a5.p [(22,(vI x5)),(21,(vS p0))]
   refine st 2 a6 (vs (fun (y:Int) => (.d (.i .u8 y))) h (fun y hy => vop_ix (b:=p0) (k:=.i64) hy kr kr kr) fun y2 h => ?_)
   let a7:St:=a6.p [(25,(vB (decide (y2 < 48)))),(24,(vB (decide (y2 < 48)))),(23,(.d (.i .u8 y2)))]
   refine st 2 a7 (gp true (decide (y2 < 48)) (vS p0) (fun hc => vl) (gp true (decide (y2 < 48)) (vI x5) (fun hc => vl) ?_))
   refine gv true (decide (y2 < 48)) (fun (y:Int) => (.d (.i .u8 y))) h (fun y hy hc => vop_ix (b:=p0) (k:=.i64) hy (Eq.trans (b:=([(true && ((decide (y2 < 48)) == false)),(true && ((decide (y2 < 48)) == false))]:List Bool).all id) kr (all_c hc (all_c hc rfl))) kr kr) fun y3 h => (gp true (decide (y2 < 48)) (vB (decide (57 < y3))) (fun hc => vg hc) ?_)
   refine vs (fun (y:Bool) => (vB y)) h (fun y hy => vop_pickV hy (p:=true) (q:=(true && ((decide (y2 < 48)) == false))) kr kr kr kr (fun _ => rfl) (fun hb => gc_f rfl hb)) fun y4 h => (nx ?_)
   refine cd h (fun h => ?_) fun h => ?_
   refine so ?_
   let a8:St:=a7.p [(3,(vB false)),(2,(vI 0)),(30,(vB y4)),(29,(.ite (true && ((decide (y2 < 48)) == false)) (vB (decide (57 < y3))))),(28,(.ite (true && ((decide (y2 < 48)) == false)) (.d (.i .u8 y3)))),(27,(.ite (true && ((decide (y2 < 48)) == false)) (vI x5))),(26,(.ite (true && ((decide (y2 < 48)) == false)) (vS p0)))]
   refine st 2 a8 (nx (ri (tr (br (tr (tr (br (tr ?_))))))))
   injection h with h; subst h
   exact retn_step (vs:=[(vI 0),(vB false)]) kr kr
   refine ki (xi (so ?_))
   let a9:St:=a7.p [(32,(vI x5)),(31,(vS p0)),(30,(vB y4)),(29,(.ite (true && ((decide (y2 < 48)) == false)) (vB (decide (57 < y3))))),(28,(.ite (true && ((decide (y2 < 48)) == false)) (.d (.i .u8 y3)))),(27,(.ite (true && ((decide (y2 < 48)) == false)) (vI x5))),(26,(.ite (true && ((decide (y2 < 48)) == false)) (vS p0)))]
   refine st 2 a9 (vs (fun (y:Int) => (.d (.i .u8 y))) h (fun y hy => vop_ix (b:=p0) (k:=.i64) hy kr kr kr) fun y5 h => ?_)
   let a10:St:=a9.p [(6,(vI (IntKind.wrap .i64 ((IntKind.wrap .i64 y5) - 48)))),(35,(vI (IntKind.wrap .i64 ((IntKind.wrap .i64 y5) - 48)))),(34,(vI (IntKind.wrap .i64 y5))),(33,(.d (.i .u8 y5)))]
   refine st 3 a10 (nx (si (so ?_)))
   let a11:St:=a10.p [(40,(vB (decide ((IntKind.wrap .i64 (Int.tdiv (IntKind.wrap .i64 (9223372036854775807 - (IntKind.wrap .i64 ((IntKind.wrap .i64 y5) - 48)))) 10)) < x4)))),(39,(vI (IntKind.wrap .i64 (Int.tdiv (IntKind.wrap .i64 (9223372036854775807 - (IntKind.wrap .i64 ((IntKind.wrap .i64 y5) - 48)))) 10)))),(38,(vI (IntKind.wrap .i64 (9223372036854775807 - (IntKind.wrap .i64 ((IntKind.wrap .i64 y5) - 48)))))),(37,(vI (IntKind.wrap .i64 ((IntKind.wrap .i64 y5) - 48)))),(36,(vI x4))]
   refine st 5 a11 (nx ?_)
   refine cd h (fun h => ?_) fun h => ?_
   refine so ?_
   let a12:St:=a11.p [(3,(vB false)),(2,(vI 0))]
   refine st 2 a12 (nx (ri (tr (br (tr (tr (br (tr ?_))))))))
   injection h with h; subst h
   exact retn_step (vs:=[(vI 0),(vB false)]) kr kr
   refine ki (xi (oi ?_))
   let a13:St:=a11.p [(4,(vI (IntKind.wrap .i64 ((IntKind.wrap .i64 (10 * x4)) + (IntKind.wrap .i64 ((IntKind.wrap .i64 y5) - 48)))))),(44,(vI (IntKind.wrap .i64 ((IntKind.wrap .i64 (10 * x4)) + (IntKind.wrap .i64 ((IntKind.wrap .i64 y5) - 48)))))),(43,(vI (IntKind.wrap .i64 ((IntKind.wrap .i64 y5) - 48)))),(42,(vI (IntKind.wrap .i64 (10 * x4)))),(41,(vI x4))]
   refine st 5 a13 (ni (bn (xi (oi ?_))))
   let a14:St:=a13.p [(5,(vI (IntKind.wrap .i64 (x5 + 1)))),(20,(vI (IntKind.wrap .i64 (x5 + 1)))),(19,(vI x5))]
   exact st 3 a14 (ni (loop_back (s':=stsNumber_L0 p0 (IntKind.wrap .i64 ((IntKind.wrap .i64 (10 * x4)) + (IntKind.wrap .i64 ((IntKind.wrap .i64 y5) - 48)))) (IntKind.wrap .i64 (x5 + 1))) (wr [] (es (es (es er_nil))) br_nil) (OK_sNumber_L0 (IntKind.wrap .i64 ((IntKind.wrap .i64 (10 * x4)) + (IntKind.wrap .i64 ((IntKind.wrap .i64 y5) - 48)))) (IntKind.wrap .i64 (x5 + 1)) _ h)))
   refine ei (te (te (bh (xi (si (so ?_))))))
   let a15:St:=a5.p [(45,(vI x4))]
   refine st 1 a15 (cs h (OK_sDigits x4) fun y6 h => ?_)
   let a16:St:=a15.p [(48,(vB (!decide (y6 = p0)))),(47,(vS p0)),(46,(vS y6))]
   refine st 2 a16 (nx ?_)
   refine cd h (fun h => ?_) fun h => ?_
   refine so ?_
   let a17:St:=a16.p [(3,(vB false)),(2,(vI 0))]
   refine st 2 a17 (nx (ri (tr ?_)))
   injection h with h; subst h
   exact retn_step (vs:=[(vI 0),(vB false)]) kr kr
   refine ki (xi (so ?_))
   let a18:St:=a16.p [(3,(vB true)),(2,(vI x4)),(49,(vI x4))]
   refine st 3 a18 (nx (ri ?_))
   injection h with h; subst h
   exact retn_step (vs:=[(vI x4),(vB true)]) kr kr
theorem OK_sNumber_L0 (p0:(List UInt8)) (x4:Int) (x5:Int) (r:Int × Bool) (h:sNumber_L0 p0 x4 x5 = some r):avc Tryz.prog acsNumber_L0 (qsNumber_1 r) (stsNumber_L0 p0 x4 x5):=(OKs_sNumber_L0 p0) x4 x5 r h
theorem OK_sNumber (p0:(List UInt8)):FOk Tryz.prog 94 [(vS p0)] (fun y => (.tup [(vI y.1),(vB y.2)])) (sNumber p0):=by
 intro r h
 rw [sNumber] at h
 refine aof trsNumber ?_
 show avc Tryz.prog acsNumber (qsNumber _) ⟨[(0,(vS p0))], []⟩
 delta acsNumber
 refine so ?_
 let a0:St:=⟨[(3,(vB false)),(2,(vI 0)),(0,(vS p0))], []⟩
 refine st 2 a0 (nx (si (so ?_)))
 let a1:St:=a0.p [(10,(vB (decide ((ln p0) < 1)))),(9,(vB (decide ((ln p0) < 1)))),(8,(vI (ln p0))),(7,(vS p0))]
 refine st 4 a1 (gp true (decide ((ln p0) < 1)) (vS p0) (fun hc => vl) (gp true (decide ((ln p0) < 1)) (vI (ln p0)) (fun hc => vg hc) (gp true (decide ((ln p0) < 1)) (vB (decide (19 < (ln p0)))) (fun hc => vg hc) ?_)))
 refine vs (fun (y:Bool) => (vB y)) h (fun y hy => vop_pickV hy (p:=true) (q:=(true && ((decide ((ln p0) < 1)) == false))) kr kr kr kr (fun _ => rfl) (fun hb => gc_f rfl hb)) fun y1 h => (nx ?_)
 refine cd h (fun h => ?_) fun h => ?_
 refine so ?_
 let a2:St:=a1.p [(3,(vB false)),(2,(vI 0)),(14,(vB y1)),(13,(.ite (true && ((decide ((ln p0) < 1)) == false)) (vB (decide (19 < (ln p0)))))),(12,(.ite (true && ((decide ((ln p0) < 1)) == false)) (vI (ln p0)))),(11,(.ite (true && ((decide ((ln p0) < 1)) == false)) (vS p0)))]
 refine st 2 a2 (nx (ri (tr ?_)))
 injection h with h; subst h
 exact retn_step (vs:=[(vI 0),(vB false)]) kr kr
 refine ki (xi (so ?_))
 let a3:St:=a1.p [(4,(vI 0)),(14,(vB y1)),(13,(.ite (true && ((decide ((ln p0) < 1)) == false)) (vB (decide (19 < (ln p0)))))),(12,(.ite (true && ((decide ((ln p0) < 1)) == false)) (vI (ln p0)))),(11,(.ite (true && ((decide ((ln p0) < 1)) == false)) (vS p0)))]
 refine st 1 a3 (nx (si (so ?_)))
 let a4:St:=a3.p [(5,(vI 0))]
 exact st 1 a4 (nx (bi (loop_go (s':=stsNumber_L0 p0 0 0) (wr [] (es (es (es er_nil))) br_nil) (OK_sNumber_L0 p0 0 0 _ h))))
theorem OK_sSignOk_J0 (x4:Bool) (r:Bool) (h:sSignOk_J0 x4 = some r):avc Tryz.prog acsSignOk_J0 (qsSignOk_1 r) (stsSignOk_J0 x4):=by
 rw [sSignOk_J0] at h
 delta acsSignOk_J0
 refine cd h (fun h => ?_) fun h => ?_
 refine so ?_
 let a18:St:=(stsSignOk_J0 x4).p [(2,(vB true))]
 refine st 1 a18 (nx (ri (br (tr ?_))))
 injection h with h; subst h
 exact r1 (v:=(vB true))
 refine ki (bn (xi (so ?_)))
 let a19:St:=(stsSignOk_J0 x4).p [(2,(vB false))]
 refine st 1 a19 (nx (ri ?_))
 injection h with h; subst h
 exact r1 (v:=(vB false))
theorem OK_sSignOk (p0:(List UInt8)):FOk Tryz.prog 95 [(vS p0)] (fun y => (vB y)) (sSignOk p0):=by
 intro r h
 rw [sSignOk] at h
 refine aof trsSignOk ?_
 show avc Tryz.prog acsSignOk (qsSignOk _) ⟨[(0,(vS p0))], []⟩
 delta acsSignOk
 refine so ?_
 let a0:St:=⟨[(2,(vB false)),(0,(vS p0))], []⟩
 refine st 1 a0 (nx (si (so ?_)))
 let a1:St:=a0.p [(3,(vS p0))]
 refine st 1 a1 (nx (bi (si (so ?_))))
 let a2:St:=a1.p [(4,(vB (decide (p0 = [40])))),(5,(vB (decide (p0 = [40]))))]
 refine st 2 a2 (nx ?_)
 refine cd h (fun h => ?_) fun h => ?_
 exact ki (next_step (s':=stsSignOk_J0 (decide (p0 = [40]))) (wr [] (es er_nil) br_nil) (OK_sSignOk_J0 (decide (p0 = [40])) _ h))
 refine so ?_
 let a3:St:=a2.p [(4,(vB (decide (p0 = [41])))),(6,(vB (decide (p0 = [41]))))]
 refine st 2 a3 (nx ?_)
 refine cd h (fun h => ?_) fun h => ?_
 exact ki (next_step (s':=stsSignOk_J0 (decide (p0 = [41]))) (wr [] (es er_nil) br_nil) (OK_sSignOk_J0 (decide (p0 = [41])) _ h))
 refine so ?_
 let a4:St:=a3.p [(4,(vB (decide (p0 = [44])))),(7,(vB (decide (p0 = [44]))))]
 refine st 2 a4 (nx ?_)
 refine cd h (fun h => ?_) fun h => ?_
 exact ki (next_step (s':=stsSignOk_J0 (decide (p0 = [44]))) (wr [] (es er_nil) br_nil) (OK_sSignOk_J0 (decide (p0 = [44])) _ h))
 refine so ?_
 let a5:St:=a4.p [(4,(vB (decide (p0 = [46])))),(8,(vB (decide (p0 = [46]))))]
 refine st 2 a5 (nx ?_)
 refine cd h (fun h => ?_) fun h => ?_
 exact ki (next_step (s':=stsSignOk_J0 (decide (p0 = [46]))) (wr [] (es er_nil) br_nil) (OK_sSignOk_J0 (decide (p0 = [46])) _ h))
 refine so ?_
 let a6:St:=a5.p [(4,(vB (decide (p0 = [42])))),(9,(vB (decide (p0 = [42]))))]
 refine st 2 a6 (nx ?_)
 refine cd h (fun h => ?_) fun h => ?_
 exact ki (next_step (s':=stsSignOk_J0 (decide (p0 = [42]))) (wr [] (es er_nil) br_nil) (OK_sSignOk_J0 (decide (p0 = [42])) _ h))
 refine so ?_
 let a7:St:=a6.p [(4,(vB (decide (p0 = [43])))),(10,(vB (decide (p0 = [43]))))]
 refine st 2 a7 (nx ?_)
 refine cd h (fun h => ?_) fun h => ?_
 exact ki (next_step (s':=stsSignOk_J0 (decide (p0 = [43]))) (wr [] (es er_nil) br_nil) (OK_sSignOk_J0 (decide (p0 = [43])) _ h))
 refine so ?_
 let a8:St:=a7.p [(4,(vB (decide (p0 = [45])))),(11,(vB (decide (p0 = [45]))))]
 refine st 2 a8 (nx ?_)
 refine cd h (fun h => ?_) fun h => ?_
 exact ki (next_step (s':=stsSignOk_J0 (decide (p0 = [45]))) (wr [] (es er_nil) br_nil) (OK_sSignOk_J0 (decide (p0 = [45])) _ h))
 refine so ?_
 let a9:St:=a8.p [(4,(vB (decide (p0 = [47])))),(12,(vB (decide (p0 = [47]))))]
 refine st 2 a9 (nx ?_)
 refine cd h (fun h => ?_) fun h => ?_
 exact ki (next_step (s':=stsSignOk_J0 (decide (p0 = [47]))) (wr [] (es er_nil) br_nil) (OK_sSignOk_J0 (decide (p0 = [47])) _ h))
 refine so ?_
 let a10:St:=a9.p [(4,(vB (decide (p0 = [37])))),(13,(vB (decide (p0 = [37]))))]
 refine st 2 a10 (nx ?_)
 refine cd h (fun h => ?_) fun h => ?_
 exact ki (next_step (s':=stsSignOk_J0 (decide (p0 = [37]))) (wr [] (es er_nil) br_nil) (OK_sSignOk_J0 (decide (p0 = [37])) _ h))
 refine so ?_
 let a11:St:=a10.p [(4,(vB (decide (p0 = [61])))),(14,(vB (decide (p0 = [61]))))]
 refine st 2 a11 (nx ?_)
 refine cd h (fun h => ?_) fun h => ?_
 exact ki (next_step (s':=stsSignOk_J0 (decide (p0 = [61]))) (wr [] (es er_nil) br_nil) (OK_sSignOk_J0 (decide (p0 = [61])) _ h))
 refine so ?_
 let a12:St:=a11.p [(4,(vB (decide (p0 = [60, 62])))),(15,(vB (decide (p0 = [60, 62]))))]
 refine st 2 a12 (nx ?_)
 refine cd h (fun h => ?_) fun h => ?_
 exact ki (next_step (s':=stsSignOk_J0 (decide (p0 = [60, 62]))) (wr [] (es er_nil) br_nil) (OK_sSignOk_J0 (decide (p0 = [60, 62])) _ h))
 refine so ?_
 let a13:St:=a12.p [(4,(vB (decide (p0 = [60])))),(16,(vB (decide (p0 = [60]))))]
 refine st 2 a13 (nx ?_)
 refine cd h (fun h => ?_) fun h => ?_
 exact ki (next_step (s':=stsSignOk_J0 (decide (p0 = [60]))) (wr [] (es er_nil) br_nil) (OK_sSignOk_J0 (decide (p0 = [60])) _ h))
 refine so ?_
 let a14:St:=a13.p [(4,(vB (decide (p0 = [60, 61])))),(17,(vB (decide (p0 = [60, 61]))))]
 refine st 2 a14 (nx ?_)
 refine cd h (fun h => ?_) fun h => ?_
 exact ki (next_step (s':=stsSignOk_J0 (decide (p0 = [60, 61]))) (wr [] (es er_nil) br_nil) (OK_sSignOk_J0 (decide (p0 = [60, 61])) _ h))
 refine so ?_
 let a15:St:=a14.p [(4,(vB (decide (p0 = [62])))),(18,(vB (decide (p0 = [62]))))]
 refine st 2 a15 (nx ?_)
 refine cd h (fun h => ?_) fun h => ?_
 exact ki (next_step (s':=stsSignOk_J0 (decide (p0 = [62]))) (wr [] (es er_nil) br_nil) (OK_sSignOk_J0 (decide (p0 = [62])) _ h))
 refine so ?_
 let a16:St:=a15.p [(4,(vB (decide (p0 = [62, 61])))),(19,(vB (decide (p0 = [62, 61]))))]
 refine st 2 a16 (nx ?_)
 refine cd h (fun h => ?_) fun h => ?_
 exact ki (next_step (s':=stsSignOk_J0 (decide (p0 = [62, 61]))) (wr [] (es er_nil) br_nil) (OK_sSignOk_J0 (decide (p0 = [62, 61])) _ h))
 refine oi ?_
 let a17:St:=a16.p [(4,(vB (decide (p0 = [124, 124])))),(20,(vB (decide (p0 = [124, 124]))))]
 exact st 2 a17 (ni (next_step (s':=stsSignOk_J0 (decide (p0 = [124, 124]))) (wr [] (es er_nil) br_nil) (OK_sSignOk_J0 (decide (p0 = [124, 124])) _ h)))
theorem OK_sTokenOk (p0:GToken):FOk Tryz.prog 48 [(vGToken p0)] (fun y => (vB y)) (sTokenOk p0):=by
 intro r h
 rw [sTokenOk] at h
 refine aof trsTokenOk ?_
 show avc Tryz.prog acsTokenOk (qsTokenOk _) ⟨[(0,(vGToken p0))], []⟩
 delta acsTokenOk
 refine so ?_
 let a0:St:=⟨[(2,(vB false)),(1,(.ptr 1 0)),(0,(vGToken p0))], [(1, bGToken p0)]⟩
 refine st 2 a0 (nx (si (so ?_)))
 let a1:St:=a0.p [(6,(vI p0.kind)),(5,(.ptr 1 0))]
 refine st 2 a1 (nx (bi (so ?_)))
 let a2:St:=a1.p [(7,(vB (decide (p0.kind = 1)))),(8,(vB (decide (p0.kind = 1))))]
 refine st 2 a2 (nx ?_)
 refine cd h (fun h => ?_) fun h => ?_
 refine si (dops_in ?_)
 let a3:St:=a2.p [(10,(vS p0.text)),(9,(.ptr 1 1))]
 refine dsts_ok 2 (s':=a3) kr (dcall_step (m:=sKeyOf p0.text) (args:=[(vS p0.text)]) (v':=(fun y => (vI y))) h (OK_sKeyOf p0.text) kr kr (fun _ => rfl) ?_)
 clear h; intro y1 h
 let a4:St:=a3.p [(13,(vB (decide (0 < y1)))),(12,(vB (decide (0 < y1)))),(11,(vI y1))]
 refine dsts_ok 2 (s':=a4) kr (dgp_step (p:=true) (b:=(decide (0 < y1))) (v':=(.ptr 1 1)) kr rfl rfl (fun hc => vl) (dgp_step (p:=true) (b:=(decide (0 < y1))) (v':=(vS p0.text)) kr rfl rfl (fun hc => vg hc) ?_))
 refine dgcall_step (p:=true) (b:=(decide (0 < y1))) (m:=sFold p0.text) (dflt:=default) (args:=[(vS p0.text)]) (v':=(fun y => (vS y))) h kr (OK_sFold p0.text) (fun hc => by kernel_rfl) kr (fun _ => rfl) (fun hc => (Eq.trans (b:=([(true && ((decide (0 < y1)) == true))]:List Bool).all id) kr (all_c hc rfl))) ?_
 clear h; intro y2 h
 refine dgp_step (p:=true) (b:=(decide (0 < y1))) (v':=(.ptr 1 1)) kr rfl rfl (fun hc => vl) (dgp_step (p:=true) (b:=(decide (0 < y1))) (v':=(vS p0.text)) kr rfl rfl (fun hc => vg hc) ?_)
 refine dgp_step (p:=true) (b:=(decide (0 < y1))) (v':=(vB (decide (y2 = p0.text)))) kr rfl rfl (fun hc => vop_val1 (Eq.trans (b:=([(true && ((decide (0 < y1)) == true)),(true && ((decide (0 < y1)) == true))]:List Bool).all id) kr (all_c hc (all_c hc rfl))) kr) ?_
 refine dv_step (m:=some (if (decide (0 < y1)) = true then (decide (y2 = p0.text)) else false)) (v':=fun y => (vB y)) h rfl rfl (fun y hy => vop_pickV hy (p:=(true && ((decide (0 < y1)) == true))) (q:=true) kr kr kr kr (fun hb => gc_t rfl hb) (fun _ => rfl)) ?_
 clear h; intro y3 h
 let a5:St:=a4.p [(2,(vB y3)),(20,(vB y3)),(19,(.ite (true && ((decide (0 < y1)) == true)) (vB (decide (y2 = p0.text))))),(18,(.ite (true && ((decide (0 < y1)) == true)) (vS p0.text))),(17,(.ite (true && ((decide (0 < y1)) == true)) (.ptr 1 1))),(16,(.ite (true && ((decide (0 < y1)) == true)) (vS y2))),(15,(.ite (true && ((decide (0 < y1)) == true)) (vS p0.text))),(14,(.ite (true && ((decide (0 < y1)) == true)) (.ptr 1 1)))]
 refine dsts_ok 1 (s':=a5) kr (dnil_in kr kr (xi (ri (br (tr ?_)))))
 injection h with h; subst h
 exact r1 (v:=(vB y3))
 refine so ?_
 let a6:St:=a2.p [(21,(vB (decide (p0.kind = 2)))),(22,(vB (decide (p0.kind = 2))))]
 refine st 2 a6 (nx ?_)
 refine cd h (fun h => ?_) fun h => ?_
 refine so ?_
 let a7:St:=a6.p [(24,(vS p0.text)),(23,(.ptr 1 1))]
 refine st 2 a7 (cs h (OK_sNameOk p0.text) fun y4 h => ?_)
 let a8:St:=a7.p [(2,(vB y4)),(25,(vB y4))]
 refine st 1 a8 (nx (ri (br (tr ?_))))
 injection h with h; subst h
 exact r1 (v:=(vB y4))
 refine so ?_
 let a9:St:=a6.p [(26,(vB (decide (p0.kind = 3)))),(27,(vB (decide (p0.kind = 3))))]
 refine st 2 a9 (nx ?_)
 refine cd h (fun h => ?_) fun h => ?_
 refine so ?_
 let a10:St:=a9.p [(30,(vS p0.text)),(29,(.ptr 1 1))]
 refine st 2 a10 (cs h (OK_sNumber p0.text) fun y5 h => ?_)
 let a11:St:=a10.p [(4,(vB y5.2)),(3,(vI y5.1)),(33,(vB y5.2)),(32,(vI y5.1)),(28,(.tup [(vI y5.1),(vB y5.2)])),(31,(.tup [(vI y5.1),(vB y5.2)]))]
 refine st 5 a11 (nx (so ?_))
 let a12:St:=a11.p [(2,(vB y5.2)),(34,(vB y5.2))]
 refine st 2 a12 (nx (ri (br (tr ?_))))
 injection h with h; subst h
 exact r1 (v:=(vB y5.2))
 refine so ?_
 let a13:St:=a9.p [(35,(vB (decide (p0.kind = 4)))),(36,(vB (decide (p0.kind = 4))))]
 refine st 2 a13 (nx ?_)
 refine cd h (fun h => ?_) fun h => ?_
 refine so ?_
 let a14:St:=a13.p [(2,(vB (decide ((ln p0.text) ≤ 40)))),(40,(vB (decide ((ln p0.text) ≤ 40)))),(39,(vI (ln p0.text))),(38,(vS p0.text)),(37,(.ptr 1 1))]
 refine st 5 a14 (nx (ri (br (tr ?_))))
 injection h with h; subst h
 exact r1 (v:=(vB (decide ((ln p0.text) ≤ 40))))
 refine so ?_
 let a15:St:=a13.p [(41,(vB (decide (p0.kind = 5)))),(42,(vB (decide (p0.kind = 5))))]
 refine st 2 a15 (nx ?_)
 refine cd h (fun h => ?_) fun h => ?_
 refine so ?_
 let a16:St:=a15.p [(44,(vS p0.text)),(43,(.ptr 1 1))]
 refine st 2 a16 (cs h (OK_sSignOk p0.text) fun y6 h => ?_)
 let a17:St:=a16.p [(2,(vB y6)),(45,(vB y6))]
 refine st 1 a17 (nx (ri (br (tr ?_))))
 injection h with h; subst h
 exact r1 (v:=(vB y6))
 refine ki (bn (xi (so ?_)))
 let a18:St:=a15.p [(2,(vB false))]
 refine st 1 a18 (nx (ri ?_))
 injection h with h; subst h
 exact r1 (v:=(vB false))
theorem OK_sTokenText (p0:GToken):FOk Tryz.prog 50 [(vGToken p0)] (fun y => (vS y)) (sTokenText p0):=by
 intro r h
 rw [sTokenText] at h
 refine aof trsTokenText ?_
 show avc Tryz.prog acsTokenText (qsTokenText _) ⟨[(0,(vGToken p0))], []⟩
 delta acsTokenText
 refine so ?_
 let a0:St:=⟨[(2,(vS [])),(1,(.ptr 1 0)),(0,(vGToken p0))], [(1, bGToken p0)]⟩
 refine st 2 a0 (nx (si (so ?_)))
 let a1:St:=a0.p [(3,(vGToken p0))]
 refine st 1 a1 (cs h (OK_sTokenOk p0) fun y1 h => ?_)
 let a2:St:=a1.p [(5,(vB (!y1))),(4,(vB y1))]
 refine st 1 a2 (nx ?_)
 refine cd h (fun h => ?_) fun h => ?_
 refine so ?_
 let a3:St:=a2.p [(2,(vS []))]
 refine st 1 a3 (nx (ri (tr ?_)))
 injection h with h; subst h
 exact r1 (v:=(vS []))
 refine ki (xi (si (so ?_)))
 let a4:St:=a2.p [(7,(vI p0.kind)),(6,(.ptr 1 0))]
 refine st 2 a4 (nx (bi (so ?_)))
 let a5:St:=a4.p [(8,(vB (decide (p0.kind = 2)))),(9,(vB (decide (p0.kind = 2))))]
 refine st 2 a5 (nx ?_)
 refine cd h (fun h => ?_) fun h => ?_
 refine so ?_
 let a6:St:=a5.p [(11,(vS p0.text)),(10,(.ptr 1 1))]
 refine st 2 a6 (cs h (OK_sNameText p0.text) fun y2 h => ?_)
 let a7:St:=a6.p [(2,(vS y2)),(12,(vS y2))]
 refine st 1 a7 (nx (ri (br (tr ?_))))
 injection h with h; subst h
 exact r1 (v:=(vS y2))
 refine so ?_
 let a8:St:=a5.p [(13,(vB (decide (p0.kind = 4)))),(14,(vB (decide (p0.kind = 4))))]
 refine st 2 a8 (nx ?_)
 refine cd h (fun h => ?_) fun h => ?_
 refine so ?_
 let a9:St:=a8.p [(16,(vS p0.text)),(15,(.ptr 1 1))]
 refine st 2 a9 (cs h (OK_sQuoteText p0.text) fun y3 h => ?_)
 let a10:St:=a9.p [(2,(vS y3)),(17,(vS y3))]
 refine st 1 a10 (nx (ri (br (tr ?_))))
 injection h with h; subst h
 exact r1 (v:=(vS y3))
 refine ki (bn (xi (so ?_)))
 let a11:St:=a8.p [(2,(vS p0.text)),(19,(vS p0.text)),(18,(.ptr 1 1))]
 refine st 3 a11 (nx (ri ?_))
 injection h with h; subst h
 exact r1 (v:=(vS p0.text))
theorem OKs_sL3Source_L0 (y1:Int × GL1Cur):(∀ (x3:(List UInt8)) (x5:Int) (b1000000_0:(List Int)) (b1000000_1:Int) (b1000000_2:Int) (r:(List UInt8) × GL1Cur), sL3Source_L0 y1 x3 x5 b1000000_0 b1000000_1 b1000000_2 = some r → avc Tryz.prog acsL3Source_L0 (qsL3Source_1 r) (stsL3Source_L0 y1 x3 x5 b1000000_0 b1000000_1 b1000000_2)):=by
 refine sL3Source_L0.partial_correctness y1 (fun x3 x5 b1000000_0 b1000000_1 b1000000_2 r => avc Tryz.prog acsL3Source_L0 (qsL3Source_1 r) (stsL3Source_L0 y1 x3 x5 b1000000_0 b1000000_1 b1000000_2)) ?_
 · intro F_sL3Source_L0 OK_sL3Source_L0 x3 x5 b1000000_0 b1000000_1 b1000000_2 r h
   delta acsL3Source_L0
   refine loop_unroll (si (so ?_))
   let a5:St:=(stsL3Source_L0 y1 x3 x5 b1000000_0 b1000000_1 b1000000_2).p [(11,(vB (decide (x5 < y1.1)))),(10,(vI y1.1)),(9,(vI x5))]
   refine st 3 a5 (nx ?_)
   refine cd h (fun h => ?_) fun h => ?_
   refine ki (xi (si (bi (oi ?_))))
   let a6:St:=a5.p [(15,(.ptr 1000000 0)),(14,(vS x3))]
   refine st 2 a6 (bsl_step (l:=([[], [32], [10], [9], [45, 45, 32, 120, 10], [47, 42, 32, 121, 32, 42, 47], [47, 42, 42, 47], [32]]:List (List UInt8))) (f:=cStr) (g:=cStr) kr (fun _ => rfl) kr ?_)
   refine callg_step ⟨[(1000000, 1000000)], [], [], [], [], [], [], [], []⟩ (m:=sL1Pick (GL1Cur.mk b1000000_0 b1000000_1 b1000000_2) ([[], [32], [10], [9], [45, 45, 32, 120, 10], [47, 42, 32, 121, 32, 42, 47], [47, 42, 42, 47], [32]]:List (List UInt8))) (S':=fun (y:(List UInt8) × GL1Cur) => ⟨(17,(vS y.1)) :: (16,(.osl 16 9 1 (([[], [32], [10], [9], [45, 45, 32, 120, 10], [47, 42, 32, 121, 32, 42, 47], [47, 42, 42, 47], [32]]:List (List UInt8)).map cStr))) :: a6.env, [(1000000, bGL1Cur y.2)]⟩) h (OK_sL1Pick (GL1Cur.mk b1000000_0 b1000000_1 b1000000_2) ([[], [32], [10], [9], [45, 45, 32, 120, 10], [47, 42, 32, 121, 32, 42, 47], [47, 42, 42, 47], [32]]:List (List UInt8))) kr kr kr kr (fun y => by kernel_rfl) (fun y => by kernel_rfl) ?_
   clear h; intro y2 h
   refine vs (fun (y:(List UInt8)) => (vS y)) h (fun y hy => vop_cat (a:=x3) (b:=y2.1) hy kr kr kr) fun y3 h => ?_
   let a7:St:=⟨(19,(.ptr 1000000 0)) :: (18,(vS y3)) :: (17,(vS y2.1)) :: (16,(.osl 16 9 1 (([[], [32], [10], [9], [45, 45, 32, 120, 10], [47, 42, 32, 121, 32, 42, 47], [47, 42, 42, 47], [32]]:List (List UInt8)).map cStr))) :: a6.env, [(1000000, bGL1Cur y2.2)]⟩
   refine st 1 a7 (callg_step ⟨[(1000000, 1000000)], [], [], [], [], [], [], [], []⟩ (m:=sL3Token y2.2) (S':=fun (y:GToken × GL1Cur) => ⟨(20,(vGToken y.1)) :: a7.env, [(1000000, bGL1Cur y.2)]⟩) h (OK_sL3Token y2.2) kr kr kr kr (fun y => by kernel_rfl) (fun y => by kernel_rfl) ?_)
   clear h; intro y4 h
   refine cs h (OK_sTokenText y4.1) fun y5 h => (vs (fun (y:(List UInt8)) => (vS y)) h (fun y hy => vop_cat (a:=y3) (b:=y5) hy kr kr kr) fun y6 h => ?_)
   let a8:St:=⟨(3,(vS y6)) :: (22,(vS y6)) :: (21,(vS y5)) :: (20,(vGToken y4.1)) :: a7.env, [(1000000, bGL1Cur y4.2)]⟩
   refine st 1 a8 (ni (bn (xi (oi ?_))))
   let a9:St:=a8.p [(5,(vI (IntKind.wrap .i64 (x5 + 1)))),(13,(vI (IntKind.wrap .i64 (x5 + 1)))),(12,(vI x5))]
   exact st 3 a9 (ni (loop_back (s':=stsL3Source_L0 y1 y6 (IntKind.wrap .i64 (x5 + 1)) y4.2.b y4.2.i y4.2.h) (wr [] (es (es (es (es er_nil)))) (bs_ br_nil)) (OK_sL3Source_L0 y6 (IntKind.wrap .i64 (x5 + 1)) y4.2.b y4.2.i y4.2.h _ h)))
   refine ei (te (te (bh (xi (si (so ?_))))))
   let a10:St:=a5.p [(23,(.ptr 1000000 0))]
   refine st 1 a10 ?_
   refine callg_step ⟨[(1000000, 1000000)], [], [], [], [], [], [], [], []⟩ (m:=sL1Below (GL1Cur.mk b1000000_0 b1000000_1 b1000000_2) 10) (S':=fun (y:Int × GL1Cur) => ⟨(24,(vI y.1)) :: a10.env, [(1000000, bGL1Cur y.2)]⟩) h (OK_sL1Below (GL1Cur.mk b1000000_0 b1000000_1 b1000000_2) 10) kr kr kr kr (fun y => by kernel_rfl) (fun y => by kernel_rfl) ?_
   clear h; intro y7 h
   refine nx (bi (so ?_))
   let a11:St:=⟨(25,(vB (decide (y7.1 = 0)))) :: (26,(vB (decide (y7.1 = 0)))) :: (24,(vI y7.1)) :: a10.env, [(1000000, bGL1Cur y7.2)]⟩
   refine st 2 a11 (nx ?_)
   refine cd h (fun h => ?_) fun h => ?_
   refine oi ?_
   let a12:St:=a11.p [(28,(.ptr 1000000 0)),(27,(vS x3))]
   refine st 2 a12 (bsl_step (l:=([[39], [34], [47, 42], [47, 42, 47], [45, 45], [124], [34, 34], [49, 50, 120], [48, 49], [33], [195, 169], [0]]:List (List UInt8))) (f:=cStr) (g:=cStr) kr (fun _ => rfl) kr ?_)
   refine callg_step ⟨[(1000000, 1000000)], [], [], [], [], [], [], [], []⟩ (m:=sL1Pick y7.2 ([[39], [34], [47, 42], [47, 42, 47], [45, 45], [124], [34, 34], [49, 50, 120], [48, 49], [33], [195, 169], [0]]:List (List UInt8))) (S':=fun (y:(List UInt8) × GL1Cur) => ⟨(30,(vS y.1)) :: (29,(.osl 29 9 1 (([[39], [34], [47, 42], [47, 42, 47], [45, 45], [124], [34, 34], [49, 50, 120], [48, 49], [33], [195, 169], [0]]:List (List UInt8)).map cStr))) :: a12.env, [(1000000, bGL1Cur y.2)]⟩) h (OK_sL1Pick y7.2 ([[39], [34], [47, 42], [47, 42, 47], [45, 45], [124], [34, 34], [49, 50, 120], [48, 49], [33], [195, 169], [0]]:List (List UInt8))) kr kr kr kr (fun y => by kernel_rfl) (fun y => by kernel_rfl) ?_
   clear h; intro y8 h
   refine vs (fun (y:(List UInt8)) => (vS y)) h (fun y hy => vop_cat (a:=x3) (b:=y8.1) hy kr kr kr) fun y9 h => ?_
   let a13:St:=⟨(3,(vS y9)) :: (31,(vS y9)) :: (30,(vS y8.1)) :: (29,(.osl 29 9 1 (([[39], [34], [47, 42], [47, 42, 47], [45, 45], [124], [34, 34], [49, 50, 120], [48, 49], [33], [195, 169], [0]]:List (List UInt8)).map cStr))) :: a12.env, [(1000000, bGL1Cur y8.2)]⟩
   exact st 1 a13 (ni (bn (next_step (s':=stsL3Source_J1 y9 y8.2.b y8.2.i y8.2.h) (wr [] (es (es er_nil)) (bs_ br_nil)) (OK_sL3Source_J1 y9 y8.2.b y8.2.i y8.2.h _ h))))
   refine so ?_
   let a14:St:=a11.p [(32,(vB (decide (y7.1 = 1)))),(33,(vB (decide (y7.1 = 1))))]
   refine st 2 a14 (nx ?_)
   refine cd h (fun h => ?_) fun h => ?_
   refine so ?_
   let a15:St:=a14.p [(37,(vI (IntKind.wrap .i64 ((ln x3) + 1)))),(36,(vI (ln x3))),(35,(vS x3)),(34,(.ptr 1000000 0))]
   refine st 4 a15 ?_
   refine callg_step ⟨[(1000000, 1000000)], [], [], [], [], [], [], [], []⟩ (m:=sL1Below y7.2 (IntKind.wrap .i64 ((ln x3) + 1))) (S':=fun (y:Int × GL1Cur) => ⟨(38,(vI y.1)) :: a15.env, [(1000000, bGL1Cur y.2)]⟩) h (OK_sL1Below y7.2 (IntKind.wrap .i64 ((ln x3) + 1))) kr kr kr kr (fun y => by kernel_rfl) (fun y => by kernel_rfl) ?_
   clear h; intro y14 h
   let a16:St:=⟨(6,(vI y14.1)) :: (38,(vI y14.1)) :: a15.env, [(1000000, bGL1Cur y14.2)]⟩
   refine st 1 a16 (nx (dops_in ?_))
   let a17:St:=a16.p [(40,(vI y14.1)),(39,(vS x3))]
   refine dsts_ok 2 (s':=a17) kr (dv_step (m:=subl x3 0 y14.1) (v':=fun y => (vS y)) h rfl rfl (fun y hy => vop_sls (b:=x3) (lo:=0) (hi:=y14.1) hy kr kr ⟨kr, .i64, kr⟩ rfl) ?_)
   clear h; intro y15 h
   let a18:St:=a17.p [(42,(.ptr 1000000 0)),(41,(vS y15))]
   refine dsts_ok 1 (s':=a18) kr ?_
   refine dcallg_step ⟨[(1000000, 1000000)], [], [], [], [], [(2000000, 43)], [], [43], []⟩ [] [] (m:=sL1Bytes y14.2 1) (S':=fun (y:(List Int) × GL1Cur) => ⟨(43,(.osl 43 5 1 (y.1.map cU8))) :: a18.env, [(1000000, bGL1Cur y.2)]⟩) h (OK_sL1Bytes y14.2 1) kr kr kr kr (fun y => by kernel_rfl) (fun y => by kernel_rfl) ?_
   clear h; intro y16 h
   refine dv_step (m:=ofBytes y16.1) (v':=fun y => (vS y)) h rfl rfl (fun y hy => vop_cbs (l:=y16.1) hy kr kr) ?_
   clear h; intro y17 h
   refine dv_step (m:=catS y15 y17) (v':=fun y => (vS y)) h rfl rfl (fun y hy => vop_cat (a:=y15) (b:=y17) hy kr kr kr) ?_
   clear h; intro y18 h
   let a19:St:=⟨(47,(vI y14.1)) :: (46,(vS x3)) :: (45,(vS y18)) :: (44,(vS y17)) :: (43,(.osl 43 5 1 (y16.1.map cU8))) :: a18.env, [(1000000, bGL1Cur y16.2)]⟩
   refine dsts_ok 2 (s':=a19) kr (dv_step (m:=subl x3 y14.1 (ln x3)) (v':=fun y => (vS y)) h rfl rfl (fun y hy => vop_sls (b:=x3) (lo:=y14.1) (hi:=(ln x3)) hy kr kr rfl ⟨kr, .i64, kr⟩) ?_)
   clear h; intro y19 h
   refine dv_step (m:=catS y18 y19) (v':=fun y => (vS y)) h rfl rfl (fun y hy => vop_cat (a:=y18) (b:=y19) hy kr kr kr) ?_
   clear h; intro y20 h
   let a20:St:=a19.p [(3,(vS y20)),(49,(vS y20)),(48,(vS y19))]
   exact dsts_ok 1 (s':=a20) kr (dnil_in kr kr (bn (next_step (s':=stsL3Source_J1 y20 y16.2.b y16.2.i y16.2.h) (wr [] (es (es er_nil)) (bs_ br_nil)) (OK_sL3Source_J1 y20 y16.2.b y16.2.i y16.2.h _ h))))
   refine so ?_
   let a21:St:=a14.p [(50,(vB (decide (y7.1 = 2)))),(51,(vB (decide (y7.1 = 2))))]
   refine st 2 a21 (nx ?_)
   refine cd h (fun h => ?_) fun h => ?_
   refine oi ?_
   let a22:St:=a21.p [(52,(vS x3))]
   refine st 1 a22 (cs h (OK_sFold x3) fun y21 h => ?_)
   let a23:St:=a22.p [(3,(vS y21)),(53,(vS y21))]
   exact st 1 a23 (ni (bn (next_step (s':=stsL3Source_J1 y21 y7.2.b y7.2.i y7.2.h) (wr [] (es (es er_nil)) (bs_ br_nil)) (OK_sL3Source_J1 y21 y7.2.b y7.2.i y7.2.h _ h))))
   exact ki (bn (next_step (s':=stsL3Source_J1 x3 y7.2.b y7.2.i y7.2.h) (wr [] (es (es er_nil)) (bs_ br_nil)) (OK_sL3Source_J1 x3 y7.2.b y7.2.i y7.2.h _ h)))
theorem OK_sL3Source_L0 (y1:Int × GL1Cur) (x3:(List UInt8)) (x5:Int) (b1000000_0:(List Int)) (b1000000_1:Int) (b1000000_2:Int) (r:(List UInt8) × GL1Cur) (h:sL3Source_L0 y1 x3 x5 b1000000_0 b1000000_1 b1000000_2 = some r):avc Tryz.prog acsL3Source_L0 (qsL3Source_1 r) (stsL3Source_L0 y1 x3 x5 b1000000_0 b1000000_1 b1000000_2):=(OKs_sL3Source_L0 y1) x3 x5 b1000000_0 b1000000_1 b1000000_2 r h
theorem OK_sL3Source (p0:GL1Cur):FOkB Tryz.prog 47 [(.ptr 1000000 0)] [(1000000, bGL1Cur p0)] (fun (y:(List UInt8) × GL1Cur) => (vS y.1)) (fun (y:(List UInt8) × GL1Cur) => [(1000000, bGL1Cur y.2)]) (sL3Source p0):=by
 intro r h
 rw [sL3Source] at h
 refine acalls_of_fn trsL3Source (Nat.le_of_ble_eq_true rfl) (by intro n hn; simp at hn; simp only [NX]; omega) ?_
 show avc Tryz.prog acsL3Source (qsL3Source _) ⟨[(0,(.ptr 1000000 0))], [(1000000, bGL1Cur p0)]⟩
 delta acsL3Source
 refine so ?_
 let a0:St:=⟨[(2,(vS [])),(0,(.ptr 1000000 0))], [(1000000, bGL1Cur p0)]⟩
 refine st 1 a0 (nx (so ?_))
 let a1:St:=a0.p [(3,(vS []))]
 refine st 1 a1 (nx (so ?_))
 let a2:St:=a1.p [(7,(.ptr 1000000 0))]
 refine st 1 a2 (callg_step ⟨[(1000000, 1000000)], [], [], [], [], [], [], [], []⟩ (m:=sL1Below p0 8) (S':=fun (y:Int × GL1Cur) => ⟨(8,(vI y.1)) :: a2.env, [(1000000, bGL1Cur y.2)]⟩) h (OK_sL1Below p0 8) kr kr kr kr (fun y => by kernel_rfl) (fun y => by kernel_rfl) ?_)
 clear h; intro y1 h
 let a3:St:=⟨(4,(vI y1.1)) :: (8,(vI y1.1)) :: a2.env, [(1000000, bGL1Cur y1.2)]⟩
 refine st 1 a3 (nx (si (so ?_)))
 let a4:St:=a3.p [(5,(vI 0))]
 exact st 1 a4 (nx (bi (loop_go (s':=stsL3Source_L0 y1 [] 0 y1.2.b y1.2.i y1.2.h) (wr [] (es (es (es (es er_nil)))) (bs_ br_nil)) (OK_sL3Source_L0 y1 [] 0 y1.2.b y1.2.i y1.2.h _ h))))
theorem OK_sDrawSqueeze (p0:(List Int)):FOk Tryz.prog 27 [(.d (.sl 1 (p0.map cU8)))] (fun y => (vS y)) (sDrawSqueeze p0):=by
 intro r h
 rw [sDrawSqueeze] at h
 refine aof trsDrawSqueeze ?_
 show avc Tryz.prog acsDrawSqueeze (qsDrawSqueeze _) ⟨[(0,(.d (.sl 1 (p0.map cU8))))], []⟩
 delta acsDrawSqueeze
 refine so ?_
 let a0:St:=⟨[(2,(vS [])),(0,(.d (.sl 1 (p0.map cU8))))], []⟩
 refine st 1 a0 (nx (so ?_))
 let a1:St:=a0.p [(3,(.d (.sl 1 (p0.map cU8))))]
 refine st 1 a1 (callg_step ⟨[], [], [], [], [], [], [(31, 4)], [], []⟩ (m:=sL1New p0) (S':=fun (y:GL1Cur) => ⟨(4,(.ptr 4 0)) :: a1.env, [(4, bGL1Cur y)]⟩) h (OK_sL1New p0) kr kr kr kr (fun y => by kernel_rfl) (fun y => by kernel_rfl) ?_)
 clear h; intro y1 h
 refine callg_step ⟨[(1000000, 4)], [], [], [], [], [], [], [], []⟩ (m:=sL3Source y1) (S':=fun (y:(List UInt8) × GL1Cur) => ⟨(5,(vS y.1)) :: (4,(.ptr 4 0)) :: a1.env, [(4, bGL1Cur y.2)]⟩) h (OK_sL3Source y1) kr kr kr kr (fun y => by kernel_rfl) (fun y => by kernel_rfl) ?_
 clear h; intro y2 h
 let a2:St:=⟨(2,(vS y2.1)) :: (5,(vS y2.1)) :: (4,(.ptr 4 0)) :: a1.env, [(4, bGL1Cur y2.2)]⟩
 refine st 1 a2 (nx (ri ?_))
 injection h with h; subst h
 exact r1 (v:=(vS y2.1))
theorem OK_sL3One_J0 (p1:Int) (x7:Int) (b6_0:Int) (b6_1:(List UInt8)) (r:GToken × Int) (h:sL3One_J0 p1 x7 b6_0 b6_1 = some r):avc Tryz.prog acsL3One_J0 (qsL3One r) (stsL3One_J0 p1 x7 b6_0 b6_1):=by
 rw [sL3One_J0] at h
 delta acsL3One_J0
 refine si (so ?_)
 let a35:St:=(stsL3One_J0 p1 x7 b6_0 b6_1).p [(98,(vB (decide (x7 < 0)))),(97,(vB (decide (x7 < 0)))),(96,(vI x7))]
 refine st 3 a35 (gp true (decide (x7 < 0)) (vGToken (GToken.mk b6_0 b6_1 p1)) (fun hc => vl) ?_)
 refine gcall_step (p:=true) (b:=(decide (x7 < 0))) (m:=sTokenOk (GToken.mk b6_0 b6_1 p1)) (dflt:=default) (args:=[(vGToken (GToken.mk b6_0 b6_1 p1))]) (v':=(fun y => (vB y))) h kr (OK_sTokenOk (GToken.mk b6_0 b6_1 p1)) (fun hc => by kernel_rfl) kr (fun _ => rfl) (fun hc => (Eq.trans (b:=([(true && ((decide (x7 < 0)) == false))]:List Bool).all id) kr (all_c hc rfl))) ?_
 clear h; intro y19 h
 refine gp true (decide (x7 < 0)) (vB (!y19)) (fun hc => vg hc) (vs (fun (y:Bool) => (vB y)) h (fun y hy => vop_pickV hy (p:=true) (q:=(true && ((decide (x7 < 0)) == false))) kr kr kr kr (fun _ => rfl) (fun hb => gc_f rfl hb)) fun y20 h => (nx ?_))
 refine cd h (fun h => ?_) fun h => ?_
 refine so ?_
 let a36:St:=⟨(5,(vI (-1))) :: (103,(vGToken (GToken.mk b6_0 b6_1 p1))) :: (102,(vB y20)) :: (101,(.ite (true && ((decide (x7 < 0)) == false)) (vB (!y19)))) :: (100,(.ite (true && ((decide (x7 < 0)) == false)) (vB y19))) :: (99,(.ite (true && ((decide (x7 < 0)) == false)) (vGToken (GToken.mk b6_0 b6_1 p1)))) :: a35.env, [(4, bGToken (GToken.mk b6_0 b6_1 p1)),(6, bGToken (GToken.mk b6_0 b6_1 p1))]⟩
 refine st 3 a36 (nx (ri (tr ?_)))
 injection h with h; subst h
 exact retn_step (vs:=[(vGToken (GToken.mk b6_0 b6_1 p1)),(vI (-1))]) kr kr
 refine ki (xi (so ?_))
 let a37:St:=⟨(5,(vI x7)) :: (105,(vI x7)) :: (104,(vGToken (GToken.mk b6_0 b6_1 p1))) :: (102,(vB y20)) :: (101,(.ite (true && ((decide (x7 < 0)) == false)) (vB (!y19)))) :: (100,(.ite (true && ((decide (x7 < 0)) == false)) (vB y19))) :: (99,(.ite (true && ((decide (x7 < 0)) == false)) (vGToken (GToken.mk b6_0 b6_1 p1)))) :: a35.env, [(4, bGToken (GToken.mk b6_0 b6_1 p1)),(6, bGToken (GToken.mk b6_0 b6_1 p1))]⟩
 refine st 4 a37 (nx (ri ?_))
 injection h with h; subst h
 exact retn_step (vs:=[(vGToken (GToken.mk b6_0 b6_1 p1)),(vI x7)]) kr kr
theorem OK_sL3One_J1 (p0:(List UInt8)) (p1:Int) (x7_18:Int) (r:GToken × Int) (h:sL3One_J1 p0 p1 x7_18 = some r):avc Tryz.prog acsL3One_J1 (qsL3One_1 r) (stsL3One_J1 p0 p1 x7_18):=by
 rw [sL3One_J1] at h
 delta acsL3One_J1
 refine oi ?_
 let a38:St:=(stsL3One_J1 p0 p1 x7_18).p [(30,(vI x7_18)),(29,(vI p1)),(28,(vS p0))]
 refine st 3 a38 (vs (fun (y:(List UInt8)) => (vS y)) h (fun y hy => vop_sls (b:=p0) (lo:=p1) (hi:=x7_18) hy kr kr ⟨kr, .i64, kr⟩ ⟨kr, .i64, kr⟩) fun y21 h => ?_)
 let a39:St:=⟨(32,(.ptr 6 1)) :: (31,(vS y21)) :: a38.env, [(4, [(vI 0),(vS []),(vI 0)]),(6, bGToken (GToken.mk 5 y21 p1))]⟩
 exact st 2 a39 (ni (bn (next_step (s':=stsL3One_J0 p1 x7_18 5 y21) (wr [] (es (es (es er_nil))) (bs_ (bs_ br_nil))) (OK_sL3One_J0 p1 x7_18 5 y21 _ h))))
theorem OKs_sL3Quoted_J1 (p0:(List UInt8)) (y1:Int):(∀ (x7_5:(List Int)) (x8_6:Int) (r:(List UInt8) × Int), sL3Quoted_J1 p0 y1 x7_5 x8_6 = some r → avc Tryz.prog acsL3Quoted_J1 (qsL3Quoted_2 r) (stsL3Quoted_J1 p0 y1 x7_5 x8_6)) ∧ (∀ (x7:(List Int)) (x8:Int) (r:(List UInt8) × Int), sL3Quoted_L0 p0 y1 x7 x8 = some r → avc Tryz.prog acsL3Quoted_L0 (qsL3Quoted_1 r) (stsL3Quoted_L0 p0 y1 x7 x8)):=by
 refine sL3Quoted_J1.mutual_partial_correctness p0 y1 (fun x7_5 x8_6 r => avc Tryz.prog acsL3Quoted_J1 (qsL3Quoted_2 r) (stsL3Quoted_J1 p0 y1 x7_5 x8_6)) (fun x7 x8 r => avc Tryz.prog acsL3Quoted_L0 (qsL3Quoted_1 r) (stsL3Quoted_L0 p0 y1 x7 x8)) ?_ ?_
 · intro F_sL3Quoted_L0 OK_sL3Quoted_L0 x7_5 x8_6 r h
   delta acsL3Quoted_J1
   refine oi ?_
   let a17:St:=(stsL3Quoted_J1 p0 y1 x7_5 x8_6).p [(8,(vI (IntKind.wrap .i64 (x8_6 + 1)))),(20,(vI (IntKind.wrap .i64 (x8_6 + 1)))),(19,(vI x8_6))]
   exact st 3 a17 (ni (loop_back (s':=stsL3Quoted_L0 p0 y1 x7_5 (IntKind.wrap .i64 (x8_6 + 1))) (wr [(7, .old 7)] (es (es (eo 7 (es er_nil)))) br_nil) (OK_sL3Quoted_L0 x7_5 (IntKind.wrap .i64 (x8_6 + 1)) _ h)))
 · intro F_sL3Quoted_J1 OK_sL3Quoted_J1 x7 x8 r h
   delta acsL3Quoted_L0
   refine loop_unroll (si (so ?_))
   let a5:St:=(stsL3Quoted_L0 p0 y1 x7 x8).p [(18,(vB (decide (x8 < (ln p0))))),(17,(vI (ln p0))),(16,(vS p0)),(15,(vI x8))]
   refine st 4 a5 (nx ?_)
   refine cd h (fun h => ?_) fun h => ?_
   refine ki (xi (si (bi (si (so ?_)))))
   let a6:St:=a5.p [(22,(vI x8)),(21,(vS p0))]
   refine st 2 a6 (vs (fun (y:Int) => (.d (.i .u8 y))) h (fun y hy => vop_ix (b:=p0) (k:=.i64) hy kr kr kr) fun y2 h => ?_)
   let a7:St:=a6.p [(25,(vB (!decide (y2 = y1)))),(24,(.d (.i .u8 y1))),(23,(.d (.i .u8 y2)))]
   refine st 2 a7 (nx ?_)
   refine cd h (fun h => ?_) fun h => ?_
   refine so ?_
   let a8:St:=a7.p [(28,(vI x8)),(27,(vS p0)),(26,(.osl 7 5 1 (x7.map cU8)))]
   refine st 3 a8 (vs (fun (y:Int) => (.d (.i .u8 y))) h (fun y hy => vop_ix (b:=p0) (k:=.i64) hy kr kr kr) fun y3 h => (bsl_step (l:=([y3]:List Int)) (f:=cU8) (g:=cU8) kr (fun _ => rfl) kr ?_))
   refine app_step (t:=7) (l:=x7) (m:=([y3]:List Int)) (f:=cU8) (S':=fun y => ⟨[(31,(.osl 31 5 1 (y.map cU8))),(30,(.osl 30 5 1 (([y3]:List Int).map cU8))),(29,(.d (.i .u8 y3))),(28,(vI x8)),(27,(vS p0)),(26,(.d (.sl 1 (x7.map cU8)))),(25,(vB (!decide (y2 = y1)))),(24,(.d (.i .u8 y1))),(23,(.d (.i .u8 y2))),(22,(vI x8)),(21,(vS p0)),(18,(vB (decide (x8 < (ln p0))))),(17,(vI (ln p0))),(16,(vS p0)),(15,(vI x8)),(0,(vS p0)),(6,(.d (.i .u8 y1))),(7,(.d (.sl 1 (x7.map cU8)))),(8,(vI x8))], []⟩) h kr kr kr kr (fun y => by kernel_rfl) ?_
   clear h; intro y4 h
   let a9:St:=⟨[(7,(.osl 7 5 1 (y4.map cU8))),(31,(.d (.sl 1 (y4.map cU8)))),(30,(.osl 30 5 1 (([y3]:List Int).map cU8))),(29,(.d (.i .u8 y3))),(28,(vI x8)),(27,(vS p0)),(26,(.d (.sl 1 (x7.map cU8)))),(25,(vB (!decide (y2 = y1)))),(24,(.d (.i .u8 y1))),(23,(.d (.i .u8 y2))),(22,(vI x8)),(21,(vS p0)),(18,(vB (decide (x8 < (ln p0))))),(17,(vI (ln p0))),(16,(vS p0)),(15,(vI x8)),(0,(vS p0)),(6,(.d (.i .u8 y1))),(7,(.d (.sl 1 (x7.map cU8)))),(8,(vI x8))], []⟩
   exact st 1 a9 (nx (ei (te (bh (next_step (s':=stsL3Quoted_J1 p0 y1 y4 x8) (wr [(7, .old 7)] (es (es (eo 7 (es er_nil)))) br_nil) (OK_sL3Quoted_J1 y4 x8 _ h))))))
   refine ki (xi (si (so ?_)))
   let a10:St:=a7.p [(37,(vB (decide ((ln p0) ≤ (IntKind.wrap .i64 (x8 + 1)))))),(36,(vB (decide ((ln p0) ≤ (IntKind.wrap .i64 (x8 + 1)))))),(35,(vI (ln p0))),(34,(vS p0)),(33,(vI (IntKind.wrap .i64 (x8 + 1)))),(32,(vI x8))]
   refine st 6 a10 (gp true (decide ((ln p0) ≤ (IntKind.wrap .i64 (x8 + 1)))) (vS p0) (fun hc => vl) (gp true (decide ((ln p0) ≤ (IntKind.wrap .i64 (x8 + 1)))) (vI x8) (fun hc => vl) (gp true (decide ((ln p0) ≤ (IntKind.wrap .i64 (x8 + 1)))) (vI (IntKind.wrap .i64 (x8 + 1))) (fun hc => vg hc) ?_)))
   refine gv true (decide ((ln p0) ≤ (IntKind.wrap .i64 (x8 + 1)))) (fun (y:Int) => (.d (.i .u8 y))) h (fun y hy hc => vop_ix (b:=p0) (k:=.i64) hy (Eq.trans (b:=([(true && ((decide ((ln p0) ≤ (IntKind.wrap .i64 (x8 + 1)))) == false)),(true && ((decide ((ln p0) ≤ (IntKind.wrap .i64 (x8 + 1)))) == false))]:List Bool).all id) kr (all_c hc (all_c hc rfl))) kr kr) fun y7 h => ?_
   refine gp true (decide ((ln p0) ≤ (IntKind.wrap .i64 (x8 + 1)))) (.d (.i .u8 y1)) (fun hc => vl) ?_
   refine gp true (decide ((ln p0) ≤ (IntKind.wrap .i64 (x8 + 1)))) (vB (!decide (y7 = y1))) (fun hc => vop_val1 (Eq.trans (b:=([(true && ((decide ((ln p0) ≤ (IntKind.wrap .i64 (x8 + 1)))) == false)),(true && ((decide ((ln p0) ≤ (IntKind.wrap .i64 (x8 + 1)))) == false))]:List Bool).all id) kr (all_c hc (all_c hc rfl))) kr) ?_
   refine vs (fun (y:Bool) => (vB y)) h (fun y hy => vop_pickV hy (p:=true) (q:=(true && ((decide ((ln p0) ≤ (IntKind.wrap .i64 (x8 + 1)))) == false))) kr kr kr kr (fun _ => rfl) (fun hb => gc_f rfl hb)) fun y8 h => (nx ?_)
   refine cd h (fun h => ?_) fun h => ?_
   refine so ?_
   let a11:St:=a10.p [(45,(.osl 7 5 1 (x7.map cU8))),(44,(vB y8)),(43,(.ite (true && ((decide ((ln p0) ≤ (IntKind.wrap .i64 (x8 + 1)))) == false)) (vB (!decide (y7 = y1))))),(42,(.ite (true && ((decide ((ln p0) ≤ (IntKind.wrap .i64 (x8 + 1)))) == false)) (.d (.i .u8 y1)))),(41,(.ite (true && ((decide ((ln p0) ≤ (IntKind.wrap .i64 (x8 + 1)))) == false)) (.d (.i .u8 y7)))),(40,(.ite (true && ((decide ((ln p0) ≤ (IntKind.wrap .i64 (x8 + 1)))) == false)) (vI (IntKind.wrap .i64 (x8 + 1))))),(39,(.ite (true && ((decide ((ln p0) ≤ (IntKind.wrap .i64 (x8 + 1)))) == false)) (vI x8))),(38,(.ite (true && ((decide ((ln p0) ≤ (IntKind.wrap .i64 (x8 + 1)))) == false)) (vS p0)))]
   refine st 1 a11 (vs (fun (y:(List UInt8)) => (vS y)) h (fun y hy => vop_cbs (l:=x7) hy kr kr) fun y9 h => ?_)
   let a12:St:=a11.p [(5,(vI (IntKind.wrap .i64 (x8 + 1)))),(4,(vS y9)),(48,(vI (IntKind.wrap .i64 (x8 + 1)))),(47,(vI x8)),(46,(vS y9))]
   refine st 4 a12 (nx (ri (tr (br (tr (tr (br (tr ?_))))))))
   injection h with h; subst h
   exact retn_step (vs:=[(vS y9),(vI (IntKind.wrap .i64 (x8 + 1)))]) kr kr
   refine ki (xi (so ?_))
   let a13:St:=a10.p [(50,(.d (.i .u8 y1))),(49,(.osl 7 5 1 (x7.map cU8))),(44,(vB y8)),(43,(.ite (true && ((decide ((ln p0) ≤ (IntKind.wrap .i64 (x8 + 1)))) == false)) (vB (!decide (y7 = y1))))),(42,(.ite (true && ((decide ((ln p0) ≤ (IntKind.wrap .i64 (x8 + 1)))) == false)) (.d (.i .u8 y1)))),(41,(.ite (true && ((decide ((ln p0) ≤ (IntKind.wrap .i64 (x8 + 1)))) == false)) (.d (.i .u8 y7)))),(40,(.ite (true && ((decide ((ln p0) ≤ (IntKind.wrap .i64 (x8 + 1)))) == false)) (vI (IntKind.wrap .i64 (x8 + 1))))),(39,(.ite (true && ((decide ((ln p0) ≤ (IntKind.wrap .i64 (x8 + 1)))) == false)) (vI x8))),(38,(.ite (true && ((decide ((ln p0) ≤ (IntKind.wrap .i64 (x8 + 1)))) == false)) (vS p0)))]
   refine st 2 a13 (bsl_step (l:=([y1]:List Int)) (f:=cU8) (g:=cU8) kr (fun _ => rfl) kr ?_)
   refine app_step (t:=7) (l:=x7) (m:=([y1]:List Int)) (f:=cU8) (S':=fun y => ⟨[(52,(.osl 52 5 1 (y.map cU8))),(51,(.osl 51 5 1 (([y1]:List Int).map cU8))),(50,(.d (.i .u8 y1))),(49,(.d (.sl 1 (x7.map cU8)))),(44,(vB y8)),(43,(.ite (true && ((decide ((ln p0) ≤ (IntKind.wrap .i64 (x8 + 1)))) == false)) (vB (!decide (y7 = y1))))),(42,(.ite (true && ((decide ((ln p0) ≤ (IntKind.wrap .i64 (x8 + 1)))) == false)) (.d (.i .u8 y1)))),(41,(.ite (true && ((decide ((ln p0) ≤ (IntKind.wrap .i64 (x8 + 1)))) == false)) (.d (.i .u8 y7)))),(40,(.ite (true && ((decide ((ln p0) ≤ (IntKind.wrap .i64 (x8 + 1)))) == false)) (vI (IntKind.wrap .i64 (x8 + 1))))),(39,(.ite (true && ((decide ((ln p0) ≤ (IntKind.wrap .i64 (x8 + 1)))) == false)) (vI x8))),(38,(.ite (true && ((decide ((ln p0) ≤ (IntKind.wrap .i64 (x8 + 1)))) == false)) (vS p0))),(37,(vB (decide ((ln p0) ≤ (IntKind.wrap .i64 (x8 + 1)))))),(36,(vB (decide ((ln p0) ≤ (IntKind.wrap .i64 (x8 + 1)))))),(35,(vI (ln p0))),(34,(vS p0)),(33,(vI (IntKind.wrap .i64 (x8 + 1)))),(32,(vI x8)),(25,(vB (!decide (y2 = y1)))),(24,(.d (.i .u8 y1))),(23,(.d (.i .u8 y2))),(22,(vI x8)),(21,(vS p0)),(18,(vB (decide (x8 < (ln p0))))),(17,(vI (ln p0))),(16,(vS p0)),(15,(vI x8)),(0,(vS p0)),(6,(.d (.i .u8 y1))),(7,(.d (.sl 1 (x7.map cU8)))),(8,(vI x8))], []⟩) h kr kr kr kr (fun y => by kernel_rfl) ?_
   clear h; intro y10 h
   let a14:St:=⟨[(7,(.osl 7 5 1 (y10.map cU8))),(52,(.d (.sl 1 (y10.map cU8)))),(51,(.osl 51 5 1 (([y1]:List Int).map cU8))),(50,(.d (.i .u8 y1))),(49,(.d (.sl 1 (x7.map cU8)))),(44,(vB y8)),(43,(.ite (true && ((decide ((ln p0) ≤ (IntKind.wrap .i64 (x8 + 1)))) == false)) (vB (!decide (y7 = y1))))),(42,(.ite (true && ((decide ((ln p0) ≤ (IntKind.wrap .i64 (x8 + 1)))) == false)) (.d (.i .u8 y1)))),(41,(.ite (true && ((decide ((ln p0) ≤ (IntKind.wrap .i64 (x8 + 1)))) == false)) (.d (.i .u8 y7)))),(40,(.ite (true && ((decide ((ln p0) ≤ (IntKind.wrap .i64 (x8 + 1)))) == false)) (vI (IntKind.wrap .i64 (x8 + 1))))),(39,(.ite (true && ((decide ((ln p0) ≤ (IntKind.wrap .i64 (x8 + 1)))) == false)) (vI x8))),(38,(.ite (true && ((decide ((ln p0) ≤ (IntKind.wrap .i64 (x8 + 1)))) == false)) (vS p0))),(37,(vB (decide ((ln p0) ≤ (IntKind.wrap .i64 (x8 + 1)))))),(36,(vB (decide ((ln p0) ≤ (IntKind.wrap .i64 (x8 + 1)))))),(35,(vI (ln p0))),(34,(vS p0)),(33,(vI (IntKind.wrap .i64 (x8 + 1)))),(32,(vI x8)),(25,(vB (!decide (y2 = y1)))),(24,(.d (.i .u8 y1))),(23,(.d (.i .u8 y2))),(22,(vI x8)),(21,(vS p0)),(18,(vB (decide (x8 < (ln p0))))),(17,(vI (ln p0))),(16,(vS p0)),(15,(vI x8)),(0,(vS p0)),(6,(.d (.i .u8 y1))),(7,(.d (.sl 1 (x7.map cU8)))),(8,(vI x8))], []⟩
   refine st 1 a14 (nx (oi ?_))
   let a15:St:=a14.p [(8,(vI (IntKind.wrap .i64 (x8 + 1)))),(54,(vI (IntKind.wrap .i64 (x8 + 1)))),(53,(vI x8))]
   exact st 3 a15 (ni (bn (next_step (s':=stsL3Quoted_J1 p0 y1 y10 (IntKind.wrap .i64 (x8 + 1))) (wr [(7, .old 7)] (es (es (eo 7 (es er_nil)))) br_nil) (OK_sL3Quoted_J1 y10 (IntKind.wrap .i64 (x8 + 1)) _ h))))
   refine ei (te (te (bh (xi (so ?_)))))
   let a16:St:=a5.p [(5,(vI (-1))),(4,(vS []))]
   refine st 2 a16 (nx (ri ?_))
   injection h with h; subst h
   exact retn_step (vs:=[(vS []),(vI (-1))]) kr kr
theorem OK_sL3Quoted_J1 (p0:(List UInt8)) (y1:Int) (x7_5:(List Int)) (x8_6:Int) (r:(List UInt8) × Int) (h:sL3Quoted_J1 p0 y1 x7_5 x8_6 = some r):avc Tryz.prog acsL3Quoted_J1 (qsL3Quoted_2 r) (stsL3Quoted_J1 p0 y1 x7_5 x8_6):=(OKs_sL3Quoted_J1 p0 y1).1 x7_5 x8_6 r h
theorem OK_sL3Quoted_L0 (p0:(List UInt8)) (y1:Int) (x7:(List Int)) (x8:Int) (r:(List UInt8) × Int) (h:sL3Quoted_L0 p0 y1 x7 x8 = some r):avc Tryz.prog acsL3Quoted_L0 (qsL3Quoted_1 r) (stsL3Quoted_L0 p0 y1 x7 x8):=(OKs_sL3Quoted_J1 p0 y1).2 x7 x8 r h
theorem OK_sL3Quoted (p0:(List UInt8)) (p1:Int):FOk Tryz.prog 119 [(vS p0),(vI p1)] (fun y => (.tup [(vS y.1),(vI y.2)])) (sL3Quoted p0 p1):=by
 intro r h
 rw [sL3Quoted] at h
 refine aof trsL3Quoted ?_
 show avc Tryz.prog acsL3Quoted (qsL3Quoted _) ⟨[(0,(vS p0)),(1,(vI p1))], []⟩
 delta acsL3Quoted
 refine so ?_
 let a0:St:=⟨[(5,(vI 0)),(4,(vS [])),(0,(vS p0)),(1,(vI p1))], []⟩
 refine st 2 a0 (nx (so ?_))
 let a1:St:=a0.p [(10,(vI p1)),(9,(vS p0))]
 refine st 2 a1 (vs (fun (y:Int) => (.d (.i .u8 y))) h (fun y hy => vop_ix (b:=p0) (k:=.i64) hy kr kr kr) fun y1 h => ?_)
 let a2:St:=a1.p [(6,(.d (.i .u8 y1))),(11,(.d (.i .u8 y1)))]
 refine st 1 a2 (nx (so (bsl_step (l:=([]:List Int)) (f:=cU8) (g:=cU8) kr (fun _ => rfl) kr ?_)))
 let a3:St:=a2.p [(7,(.osl 7 5 1 (([]:List Int).map cU8))),(12,(.d (.sl 1 (([]:List Int).map cU8))))]
 refine st 1 a3 (nx (si (so ?_)))
 let a4:St:=a3.p [(8,(vI (IntKind.wrap .i64 (p1 + 1)))),(14,(vI (IntKind.wrap .i64 (p1 + 1)))),(13,(vI p1))]
 exact st 3 a4 (nx (bi (loop_go (s':=stsL3Quoted_L0 p0 y1 ([]:List Int) (IntKind.wrap .i64 (p1 + 1))) (wr [(7, .old 7)] (es (es (eo 7 (es er_nil)))) br_nil) (OK_sL3Quoted_L0 p0 y1 ([]:List Int) (IntKind.wrap .i64 (p1 + 1)) _ h))))
theorem OKs_sL3Run_L0 (p0:(List UInt8)):(∀ (x1:Int) (r:Int), sL3Run_L0 p0 x1 = some r → avc Tryz.prog acsL3Run_L0 (qsL3Run_1 r) (stsL3Run_L0 p0 x1)):=by
 refine sL3Run_L0.partial_correctness p0 (fun x1 r => avc Tryz.prog acsL3Run_L0 (qsL3Run_1 r) (stsL3Run_L0 p0 x1)) ?_
 · intro F_sL3Run_L0 OK_sL3Run_L0 x1 r h
   delta acsL3Run_L0
   refine loop_unroll (si (so ?_))
   let a1:St:=(stsL3Run_L0 p0 x1).p [(9,(vB (decide (x1 < (ln p0))))),(8,(vB (decide (x1 < (ln p0))))),(7,(vI (ln p0))),(6,(vS p0)),(5,(vI x1))]
   refine st 5 a1 (gp true (decide (x1 < (ln p0))) (vS p0) (fun hc => vl) (gp true (decide (x1 < (ln p0))) (vI x1) (fun hc => vl) ?_))
   refine gv true (decide (x1 < (ln p0))) (fun (y:Int) => (.d (.i .u8 y))) h (fun y hy hc => vop_ix (b:=p0) (k:=.i64) hy (Eq.trans (b:=([(true && ((decide (x1 < (ln p0))) == true)),(true && ((decide (x1 < (ln p0))) == true))]:List Bool).all id) kr (all_c hc (all_c hc rfl))) kr kr) fun y1 h => ?_
   refine gcall_step (p:=true) (b:=(decide (x1 < (ln p0)))) (m:=sL2Letter y1) (dflt:=default) (args:=[(.d (.i .u8 y1))]) (v':=(fun y => (vB y))) h kr (OK_sL2Letter y1) (fun hc => by kernel_rfl) kr (fun _ => rfl) (fun hc => (Eq.trans (b:=([(true && ((decide (x1 < (ln p0))) == true))]:List Bool).all id) kr (all_c hc rfl))) ?_
   clear h; intro y2 h
   refine gp true (decide (x1 < (ln p0))) (vB y2) (fun hc => vg hc) (gp (true && ((decide (x1 < (ln p0))) == true)) y2 (vS p0) (fun hc => vl) (gp (true && ((decide (x1 < (ln p0))) == true)) y2 (vI x1) (fun hc => vl) ?_))
   refine gv (true && ((decide (x1 < (ln p0))) == true)) y2 (fun (y:Int) => (.d (.i .u8 y))) h (fun y hy hc => vop_ix (b:=p0) (k:=.i64) hy (Eq.trans (b:=([((true && ((decide (x1 < (ln p0))) == true)) && (y2 == false)),((true && ((decide (x1 < (ln p0))) == true)) && (y2 == false))]:List Bool).all id) kr (all_c hc (all_c hc rfl))) kr kr) fun y3 h => ?_
   refine gcall_step (p:=(true && ((decide (x1 < (ln p0))) == true))) (b:=y2) (m:=sL2Figure y3) (dflt:=default) (args:=[(.d (.i .u8 y3))]) (v':=(fun y => (vB y))) h kr (OK_sL2Figure y3) (fun hc => by kernel_rfl) kr (fun _ => rfl) (fun hc => (Eq.trans (b:=([((true && ((decide (x1 < (ln p0))) == true)) && (y2 == false))]:List Bool).all id) kr (all_c hc rfl))) ?_
   clear h; intro y4 h
   refine gv true (decide (x1 < (ln p0))) (fun (y:Bool) => (vB y)) h (fun y hy hc => vop_pickV hy (p:=true) (q:=((true && ((decide (x1 < (ln p0))) == true)) && (y2 == false))) (Eq.trans (b:=([(true && ((decide (x1 < (ln p0))) == true))]:List Bool).all id) kr (all_c hc rfl)) kr kr kr (fun _ => rfl) (fun hb => gc_f hc hb)) fun y5 h => ?_
   refine vs (fun (y:Bool) => (vB y)) h (fun y hy => vop_pickV hy (p:=(true && ((decide (x1 < (ln p0))) == true))) (q:=true) kr kr kr kr (fun hb => gc_t rfl hb) (fun _ => rfl)) fun y6 h => (nx ?_)
   refine cd h (fun h => ?_) fun h => ?_
   refine ki (xi (bi (oi ?_)))
   let a2:St:=a1.p [(1,(vI (IntKind.wrap .i64 (x1 + 1)))),(22,(vI (IntKind.wrap .i64 (x1 + 1)))),(21,(vI x1)),(20,(vB y6)),(19,(.ite (true && ((decide (x1 < (ln p0))) == true)) (vB y5))),(18,(.ite ((true && ((decide (x1 < (ln p0))) == true)) && (y2 == false)) (vB y4))),(17,(.ite ((true && ((decide (x1 < (ln p0))) == true)) && (y2 == false)) (.d (.i .u8 y3)))),(16,(.ite ((true && ((decide (x1 < (ln p0))) == true)) && (y2 == false)) (vI x1))),(15,(.ite ((true && ((decide (x1 < (ln p0))) == true)) && (y2 == false)) (vS p0))),(14,(.ite (true && ((decide (x1 < (ln p0))) == true)) (vB y2))),(13,(.ite (true && ((decide (x1 < (ln p0))) == true)) (vB y2))),(12,(.ite (true && ((decide (x1 < (ln p0))) == true)) (.d (.i .u8 y1)))),(11,(.ite (true && ((decide (x1 < (ln p0))) == true)) (vI x1))),(10,(.ite (true && ((decide (x1 < (ln p0))) == true)) (vS p0)))]
   exact st 3 a2 (ni (bn (loop_back (s':=stsL3Run_L0 p0 (IntKind.wrap .i64 (x1 + 1))) (wr [] (es (es er_nil)) br_nil) (OK_sL3Run_L0 (IntKind.wrap .i64 (x1 + 1)) _ h))))
   refine ei (te (te (bh (xi (so ?_)))))
   let a3:St:=a1.p [(4,(vI x1)),(23,(vI x1)),(20,(vB y6)),(19,(.ite (true && ((decide (x1 < (ln p0))) == true)) (vB y5))),(18,(.ite ((true && ((decide (x1 < (ln p0))) == true)) && (y2 == false)) (vB y4))),(17,(.ite ((true && ((decide (x1 < (ln p0))) == true)) && (y2 == false)) (.d (.i .u8 y3)))),(16,(.ite ((true && ((decide (x1 < (ln p0))) == true)) && (y2 == false)) (vI x1))),(15,(.ite ((true && ((decide (x1 < (ln p0))) == true)) && (y2 == false)) (vS p0))),(14,(.ite (true && ((decide (x1 < (ln p0))) == true)) (vB y2))),(13,(.ite (true && ((decide (x1 < (ln p0))) == true)) (vB y2))),(12,(.ite (true && ((decide (x1 < (ln p0))) == true)) (.d (.i .u8 y1)))),(11,(.ite (true && ((decide (x1 < (ln p0))) == true)) (vI x1))),(10,(.ite (true && ((decide (x1 < (ln p0))) == true)) (vS p0)))]
   refine st 2 a3 (nx (ri ?_))
   injection h with h; subst h
   exact r1 (v:=(vI x1))
theorem OK_sL3Run_L0 (p0:(List UInt8)) (x1:Int) (r:Int) (h:sL3Run_L0 p0 x1 = some r):avc Tryz.prog acsL3Run_L0 (qsL3Run_1 r) (stsL3Run_L0 p0 x1):=(OKs_sL3Run_L0 p0) x1 r h
theorem OK_sL3Run (p0:(List UInt8)) (p1:Int):FOk Tryz.prog 117 [(vS p0),(vI p1)] (fun y => (vI y)) (sL3Run p0 p1):=by
 intro r h
 rw [sL3Run] at h
 refine aof trsL3Run ?_
 show avc Tryz.prog acsL3Run (qsL3Run _) ⟨[(0,(vS p0)),(1,(vI p1))], []⟩
 delta acsL3Run
 refine so ?_
 let a0:St:=⟨[(4,(vI 0)),(0,(vS p0)),(1,(vI p1))], []⟩
 exact st 1 a0 (nx (si (bi (loop_go (s':=stsL3Run_L0 p0 p1) (wr [] (es (es er_nil)) br_nil) (OK_sL3Run_L0 p0 p1 _ h)))))
theorem OK_sL3One (p0:(List UInt8)) (p1:Int):FOk Tryz.prog 72 [(vS p0),(vI p1)] (fun y => (.tup [(vGToken y.1),(vI y.2)])) (sL3One p0 p1):=by
 intro r h
 rw [sL3One] at h
 refine aof trsL3One ?_
 show avc Tryz.prog acsL3One (qsL3One _) ⟨[(0,(vS p0)),(1,(vI p1))], []⟩
 delta acsL3One
 refine so ?_
 let a0:St:=⟨[(5,(vI 0)),(4,(.ptr 4 0)),(0,(vS p0)),(1,(vI p1))], [(4, [(vI 0),(vS []),(vI 0)])]⟩
 refine st 2 a0 (nx (so ?_))
 let a1:St:=⟨(6,(.ptr 6 0)) :: (9,(vGToken (GToken.mk 0 [] p1))) :: (8,(vI p1)) :: a0.env, [(6, bGToken (GToken.mk 0 [] p1)),(4, [(vI 0),(vS []),(vI 0)])]⟩
 refine st 4 a1 (nx (so ?_))
 let a2:St:=a1.p [(7,(vI (IntKind.wrap .i64 (p1 + 1)))),(11,(vI (IntKind.wrap .i64 (p1 + 1)))),(10,(vI p1))]
 refine st 3 a2 (nx (si (bi (so ?_))))
 let a3:St:=a2.p [(35,(vI p1)),(34,(vS p0))]
 refine st 2 a3 (vs (fun (y:Int) => (.d (.i .u8 y))) h (fun y hy => vop_ix (b:=p0) (k:=.i64) hy kr kr kr) fun y1 h => (cs h (OK_sL2Letter y1) fun y2 h => ?_))
 let a4:St:=a3.p [(33,(vB y2)),(37,(vB y2)),(36,(.d (.i .u8 y1)))]
 refine st 1 a4 (nx ?_)
 refine cd h (fun h => ?_) fun h => ?_
 refine so ?_
 let a5:St:=a4.p [(39,(vI p1)),(38,(vS p0))]
 refine st 2 a5 (cs h (OK_sL3Run p0 p1) fun y3 h => ?_)
 let a6:St:=a5.p [(7,(vI y3)),(40,(vI y3))]
 refine st 1 a6 (nx (so ?_))
 let a7:St:=⟨(41,(.ptr 6 0)) :: a6.env, [(6, bGToken (GToken.mk 2 [] p1)),(4, [(vI 0),(vS []),(vI 0)])]⟩
 refine st 2 a7 (nx (so ?_))
 let a8:St:=a7.p [(44,(vI y3)),(43,(vI p1)),(42,(vS p0))]
 refine st 3 a8 (vs (fun (y:(List UInt8)) => (vS y)) h (fun y hy => vop_sls (b:=p0) (lo:=p1) (hi:=y3) hy kr kr ⟨kr, .i64, kr⟩ ⟨kr, .i64, kr⟩) fun y4 h => ?_)
 let a9:St:=⟨(46,(.ptr 6 1)) :: (45,(vS y4)) :: a8.env, [(6, bGToken (GToken.mk 2 y4 p1)),(4, [(vI 0),(vS []),(vI 0)])]⟩
 refine st 2 a9 (nx (so ?_))
 let a10:St:=a9.p [(48,(vS y4)),(47,(.ptr 6 1))]
 refine st 2 a10 (cs h (OK_sKeyOf y4) fun y5 h => ?_)
 let a11:St:=a10.p [(50,(vB (decide (0 < y5)))),(49,(vI y5))]
 refine st 1 a11 (nx ?_)
 refine cd h (fun h => ?_) fun h => ?_
 refine so ?_
 let a12:St:=⟨(51,(.ptr 6 0)) :: a11.env, [(6, bGToken (GToken.mk 1 y4 p1)),(4, [(vI 0),(vS []),(vI 0)])]⟩
 refine st 2 a12 (nx (oi ?_))
 let a13:St:=a12.p [(53,(vS y4)),(52,(.ptr 6 1))]
 refine st 2 a13 (cs h (OK_sFold y4) fun y6 h => ?_)
 let a14:St:=⟨(55,(.ptr 6 1)) :: (54,(vS y6)) :: a13.env, [(6, bGToken (GToken.mk 1 y6 p1)),(4, [(vI 0),(vS []),(vI 0)])]⟩
 exact st 2 a14 (ni (bn (next_step (s':=stsL3One_J0 p1 y3 1 y6) (wr [] (es (es (es er_nil))) (bs_ (bs_ br_nil))) (OK_sL3One_J0 p1 y3 1 y6 _ h))))
 exact ki (bn (next_step (s':=stsL3One_J0 p1 y3 2 y4) (wr [] (es (es (es er_nil))) (bs_ (bs_ br_nil))) (OK_sL3One_J0 p1 y3 2 y4 _ h)))
 refine so ?_
 let a15:St:=a4.p [(58,(vI p1)),(57,(vS p0))]
 refine st 2 a15 (vs (fun (y:Int) => (.d (.i .u8 y))) h (fun y hy => vop_ix (b:=p0) (k:=.i64) hy kr kr kr) fun y7 h => (cs h (OK_sL2Figure y7) fun y8 h => ?_))
 let a16:St:=a15.p [(56,(vB y8)),(60,(vB y8)),(59,(.d (.i .u8 y7)))]
 refine st 1 a16 (nx ?_)
 refine cd h (fun h => ?_) fun h => ?_
 refine so ?_
 let a17:St:=a16.p [(62,(vI p1)),(61,(vS p0))]
 refine st 2 a17 (cs h (OK_sL3Run p0 p1) fun y9 h => ?_)
 let a18:St:=a17.p [(7,(vI y9)),(63,(vI y9))]
 refine st 1 a18 (nx (so ?_))
 let a19:St:=⟨(64,(.ptr 6 0)) :: a18.env, [(6, bGToken (GToken.mk 3 [] p1)),(4, [(vI 0),(vS []),(vI 0)])]⟩
 refine st 2 a19 (nx (oi ?_))
 let a20:St:=a19.p [(67,(vI y9)),(66,(vI p1)),(65,(vS p0))]
 refine st 3 a20 (vs (fun (y:(List UInt8)) => (vS y)) h (fun y hy => vop_sls (b:=p0) (lo:=p1) (hi:=y9) hy kr kr ⟨kr, .i64, kr⟩ ⟨kr, .i64, kr⟩) fun y10 h => ?_)
 let a21:St:=⟨(69,(.ptr 6 1)) :: (68,(vS y10)) :: a20.env, [(6, bGToken (GToken.mk 3 y10 p1)),(4, [(vI 0),(vS []),(vI 0)])]⟩
 exact st 2 a21 (ni (bn (next_step (s':=stsL3One_J0 p1 y9 3 y10) (wr [] (es (es (es er_nil))) (bs_ (bs_ br_nil))) (OK_sL3One_J0 p1 y9 3 y10 _ h))))
 refine so ?_
 let a22:St:=a16.p [(72,(vI p1)),(71,(vS p0))]
 refine st 2 a22 (vs (fun (y:Int) => (.d (.i .u8 y))) h (fun y hy => vop_ix (b:=p0) (k:=.i64) hy kr kr kr) fun y11 h => ?_)
 let a23:St:=a22.p [(70,(vB (decide (y11 = 34)))),(74,(vB (decide (y11 = 34)))),(73,(.d (.i .u8 y11)))]
 refine st 2 a23 (nx ?_)
 refine cd h (fun h => ?_) fun h => ?_
 refine so ?_
 let a24:St:=⟨(75,(.ptr 6 0)) :: a23.env, [(6, bGToken (GToken.mk 2 [] p1)),(4, [(vI 0),(vS []),(vI 0)])]⟩
 refine st 2 a24 (nx (oi ?_))
 let a25:St:=a24.p [(78,(vI p1)),(77,(vS p0))]
 refine st 2 a25 (cs h (OK_sL3Quoted p0 p1) fun y12 h => ?_)
 let a26:St:=⟨(7,(vI y12.2)) :: (82,(.ptr 6 1)) :: (81,(vI y12.2)) :: (80,(vS y12.1)) :: (76,(.tup [(vS y12.1),(vI y12.2)])) :: (79,(.tup [(vS y12.1),(vI y12.2)])) :: a25.env, [(6, bGToken (GToken.mk 2 y12.1 p1)),(4, [(vI 0),(vS []),(vI 0)])]⟩
 exact st 6 a26 (ni (bn (next_step (s':=stsL3One_J0 p1 y12.2 2 y12.1) (wr [] (es (es (es er_nil))) (bs_ (bs_ br_nil))) (OK_sL3One_J0 p1 y12.2 2 y12.1 _ h))))
 refine so ?_
 let a27:St:=a23.p [(85,(vI p1)),(84,(vS p0))]
 refine st 2 a27 (vs (fun (y:Int) => (.d (.i .u8 y))) h (fun y hy => vop_ix (b:=p0) (k:=.i64) hy kr kr kr) fun y13 h => ?_)
 let a28:St:=a27.p [(83,(vB (decide (y13 = 39)))),(87,(vB (decide (y13 = 39)))),(86,(.d (.i .u8 y13)))]
 refine st 2 a28 (nx ?_)
 refine cd h (fun h => ?_) fun h => ?_
 refine so ?_
 let a29:St:=⟨(88,(.ptr 6 0)) :: a28.env, [(6, bGToken (GToken.mk 4 [] p1)),(4, [(vI 0),(vS []),(vI 0)])]⟩
 refine st 2 a29 (nx (oi ?_))
 let a30:St:=a29.p [(91,(vI p1)),(90,(vS p0))]
 refine st 2 a30 (cs h (OK_sL3Quoted p0 p1) fun y14 h => ?_)
 let a31:St:=⟨(7,(vI y14.2)) :: (95,(.ptr 6 1)) :: (94,(vI y14.2)) :: (93,(vS y14.1)) :: (89,(.tup [(vS y14.1),(vI y14.2)])) :: (92,(.tup [(vS y14.1),(vI y14.2)])) :: a30.env, [(6, bGToken (GToken.mk 4 y14.1 p1)),(4, [(vI 0),(vS []),(vI 0)])]⟩
 exact st 6 a31 (ni (bn (next_step (s':=stsL3One_J0 p1 y14.2 4 y14.1) (wr [] (es (es (es er_nil))) (bs_ (bs_ br_nil))) (OK_sL3One_J0 p1 y14.2 4 y14.1 _ h))))
 refine so ?_
 let a32:St:=⟨(12,(.ptr 6 0)) :: a28.env, [(6, bGToken (GToken.mk 5 [] p1)),(4, [(vI 0),(vS []),(vI 0)])]⟩
 refine st 2 a32 (nx (si (so ?_)))
 let a33:St:=a32.p [(18,(vB (decide ((IntKind.wrap .i64 (p1 + 2)) ≤ (ln p0))))),(17,(vB (decide ((IntKind.wrap .i64 (p1 + 2)) ≤ (ln p0))))),(16,(vI (ln p0))),(15,(vS p0)),(14,(vI (IntKind.wrap .i64 (p1 + 2)))),(13,(vI p1))]
 refine st 6 a33 (gp true (decide ((IntKind.wrap .i64 (p1 + 2)) ≤ (ln p0))) (vS p0) (fun hc => vl) (gp true (decide ((IntKind.wrap .i64 (p1 + 2)) ≤ (ln p0))) (vI p1) (fun hc => vl) (gp true (decide ((IntKind.wrap .i64 (p1 + 2)) ≤ (ln p0))) (vI p1) (fun hc => vl) (gp true (decide ((IntKind.wrap .i64 (p1 + 2)) ≤ (ln p0))) (vI (IntKind.wrap .i64 (p1 + 2))) (fun hc => vg hc) ?_))))
 refine gv true (decide ((IntKind.wrap .i64 (p1 + 2)) ≤ (ln p0))) (fun (y:(List UInt8)) => (vS y)) h (fun y hy hc => vop_sls (b:=p0) (lo:=p1) (hi:=(IntKind.wrap .i64 (p1 + 2))) hy (Eq.trans (b:=([(true && ((decide ((IntKind.wrap .i64 (p1 + 2)) ≤ (ln p0))) == true))]:List Bool).all id) kr (all_c hc rfl)) kr ⟨(Eq.trans (b:=([(true && ((decide ((IntKind.wrap .i64 (p1 + 2)) ≤ (ln p0))) == true))]:List Bool).all id) kr (all_c hc rfl)), .i64, kr⟩ ⟨(Eq.trans (b:=([(true && ((decide ((IntKind.wrap .i64 (p1 + 2)) ≤ (ln p0))) == true))]:List Bool).all id) kr (all_c hc rfl)), .i64, kr⟩) fun y15 h => ?_
 refine gcall_step (p:=true) (b:=(decide ((IntKind.wrap .i64 (p1 + 2)) ≤ (ln p0)))) (m:=sSignOk y15) (dflt:=default) (args:=[(vS y15)]) (v':=(fun y => (vB y))) h kr (OK_sSignOk y15) (fun hc => by kernel_rfl) kr (fun _ => rfl) (fun hc => (Eq.trans (b:=([(true && ((decide ((IntKind.wrap .i64 (p1 + 2)) ≤ (ln p0))) == true))]:List Bool).all id) kr (all_c hc rfl))) ?_
 clear h; intro y16 h
 refine vs (fun (y:Bool) => (vB y)) h (fun y hy => vop_pickV hy (p:=(true && ((decide ((IntKind.wrap .i64 (p1 + 2)) ≤ (ln p0))) == true))) (q:=true) kr kr kr kr (fun hb => gc_t rfl hb) (fun _ => rfl)) fun y17 h => (nx ?_)
 refine cd h (fun h => ?_) fun h => ?_
 refine oi ?_
 let a34:St:=a33.p [(7,(vI (IntKind.wrap .i64 (p1 + 2)))),(27,(vI (IntKind.wrap .i64 (p1 + 2)))),(26,(vI p1)),(25,(vB y17)),(24,(.ite (true && ((decide ((IntKind.wrap .i64 (p1 + 2)) ≤ (ln p0))) == true)) (vB y16))),(23,(.ite (true && ((decide ((IntKind.wrap .i64 (p1 + 2)) ≤ (ln p0))) == true)) (vS y15))),(22,(.ite (true && ((decide ((IntKind.wrap .i64 (p1 + 2)) ≤ (ln p0))) == true)) (vI (IntKind.wrap .i64 (p1 + 2))))),(21,(.ite (true && ((decide ((IntKind.wrap .i64 (p1 + 2)) ≤ (ln p0))) == true)) (vI p1))),(20,(.ite (true && ((decide ((IntKind.wrap .i64 (p1 + 2)) ≤ (ln p0))) == true)) (vI p1))),(19,(.ite (true && ((decide ((IntKind.wrap .i64 (p1 + 2)) ≤ (ln p0))) == true)) (vS p0)))]
 exact st 3 a34 (ni (next_step (s':=stsL3One_J1 p0 p1 (IntKind.wrap .i64 (p1 + 2))) (wr [] (es (es (es (es (es er_nil))))) (bs_ (bs_ br_nil))) (OK_sL3One_J1 p0 p1 (IntKind.wrap .i64 (p1 + 2)) _ h)))
 exact ki (next_step (s':=stsL3One_J1 p0 p1 (IntKind.wrap .i64 (p1 + 1))) (wr [] (es (es (es (es (es er_nil))))) (bs_ (bs_ br_nil))) (OK_sL3One_J1 p0 p1 (IntKind.wrap .i64 (p1 + 1)) _ h))
theorem OK_sL1Min (p0:Int) (p1:Int):FOk Tryz.prog 115 [(vI p0),(vI p1)] (fun y => (vI y)) (sL1Min p0 p1):=by
 intro r h
 rw [sL1Min] at h
 refine aof trsL1Min ?_
 show avc Tryz.prog acsL1Min (qsL1Min _) ⟨[(0,(vI p0)),(1,(vI p1))], []⟩
 delta acsL1Min
 refine so ?_
 let a0:St:=⟨[(4,(vI 0)),(0,(vI p0)),(1,(vI p1))], []⟩
 refine st 1 a0 (nx (si (so ?_)))
 let a1:St:=a0.p [(7,(vB (decide (p0 < p1)))),(6,(vI p1)),(5,(vI p0))]
 refine st 3 a1 (nx ?_)
 refine cd h (fun h => ?_) fun h => ?_
 refine so ?_
 let a2:St:=a1.p [(4,(vI p0)),(8,(vI p0))]
 refine st 2 a2 (nx (ri (tr ?_)))
 injection h with h; subst h
 exact r1 (v:=(vI p0))
 refine ki (xi (so ?_))
 let a3:St:=a1.p [(4,(vI p1)),(9,(vI p1))]
 refine st 2 a3 (nx (ri ?_))
 injection h with h; subst h
 exact r1 (v:=(vI p1))
theorem OKs_sL3Pass_L2 (p0:(List UInt8)):(∀ (x1:Int) (x6:Int) (r:Int), sL3Pass_L2 p0 x1 x6 = some r → avc Tryz.prog acsL3Pass_L2 (qsL3Pass_7 r) (stsL3Pass_L2 p0 x1 x6)) ∧ (∀ (x1:Int) (r:Int), sL3Pass_L0 p0 x1 = some r → avc Tryz.prog acsL3Pass_L0 (qsL3Pass_1 r) (stsL3Pass_L0 p0 x1)) ∧ (∀ (x1_10:Int) (r:Int), sL3Pass_L1 p0 x1_10 = some r → avc Tryz.prog acsL3Pass_L1 (qsL3Pass_5 r) (stsL3Pass_L1 p0 x1_10)):=by
 refine sL3Pass_L2.mutual_partial_correctness p0 (fun x1 x6 r => avc Tryz.prog acsL3Pass_L2 (qsL3Pass_7 r) (stsL3Pass_L2 p0 x1 x6)) (fun x1 r => avc Tryz.prog acsL3Pass_L0 (qsL3Pass_1 r) (stsL3Pass_L0 p0 x1)) (fun x1_10 r => avc Tryz.prog acsL3Pass_L1 (qsL3Pass_5 r) (stsL3Pass_L1 p0 x1_10)) ?_ ?_ ?_
 · intro F_sL3Pass_L2 F_sL3Pass_L0 OK_sL3Pass_L2 OK_sL3Pass_L0 x1 x6 r h
   delta acsL3Pass_L2
   refine loop_unroll (si (so ?_))
   let a17:St:=(stsL3Pass_L2 p0 x1 x6).p [(69,(vB (decide (x6 < (ln p0))))),(68,(vB (decide (x6 < (ln p0))))),(67,(vI (ln p0))),(66,(vS p0)),(65,(vI x6))]
   refine st 5 a17 (gp true (decide (x6 < (ln p0))) (vS p0) (fun hc => vl) (gp true (decide (x6 < (ln p0))) (vI x6) (fun hc => vl) (gp true (decide (x6 < (ln p0))) (vS p0) (fun hc => vl) (gp true (decide (x6 < (ln p0))) (vI (ln p0)) (fun hc => vg hc) (gp true (decide (x6 < (ln p0))) (vI x6) (fun hc => vl) ?_)))))
   refine gp true (decide (x6 < (ln p0))) (vI (IntKind.wrap .i64 (x6 + 2))) (fun hc => vg hc) ?_
   refine gcall_step (p:=true) (b:=(decide (x6 < (ln p0)))) (m:=sL1Min (ln p0) (IntKind.wrap .i64 (x6 + 2))) (dflt:=default) (args:=[(vI (ln p0)),(vI (IntKind.wrap .i64 (x6 + 2)))]) (v':=(fun y => (vI y))) h kr (OK_sL1Min (ln p0) (IntKind.wrap .i64 (x6 + 2))) (fun hc => by kernel_rfl) kr (fun _ => rfl) (fun hc => (Eq.trans (b:=([(true && ((decide (x6 < (ln p0))) == true)),(true && ((decide (x6 < (ln p0))) == true))]:List Bool).all id) kr (all_c hc (all_c hc rfl)))) ?_
   clear h; intro y13 h
   refine gv true (decide (x6 < (ln p0))) (fun (y:(List UInt8)) => (vS y)) h (fun y hy hc => vop_sls (b:=p0) (lo:=x6) (hi:=y13) hy (Eq.trans (b:=([(true && ((decide (x6 < (ln p0))) == true))]:List Bool).all id) kr (all_c hc rfl)) kr ⟨(Eq.trans (b:=([(true && ((decide (x6 < (ln p0))) == true))]:List Bool).all id) kr (all_c hc rfl)), .i64, kr⟩ ⟨(Eq.trans (b:=([(true && ((decide (x6 < (ln p0))) == true))]:List Bool).all id) kr (all_c hc rfl)), .i64, kr⟩) fun y14 h => ?_
   refine gp true (decide (x6 < (ln p0))) (vB (!decide (y14 = [42, 47]))) (fun hc => vg hc) (vs (fun (y:Bool) => (vB y)) h (fun y hy => vop_pickV hy (p:=(true && ((decide (x6 < (ln p0))) == true))) (q:=true) kr kr kr kr (fun hb => gc_t rfl hb) (fun _ => rfl)) fun y15 h => (nx ?_))
   refine cd h (fun h => ?_) fun h => ?_
   refine ki (xi (bi (oi ?_)))
   let a18:St:=a17.p [(6,(vI (IntKind.wrap .i64 (x6 + 1)))),(81,(vI (IntKind.wrap .i64 (x6 + 1)))),(80,(vI x6)),(79,(vB y15)),(78,(.ite (true && ((decide (x6 < (ln p0))) == true)) (vB (!decide (y14 = [42, 47]))))),(77,(.ite (true && ((decide (x6 < (ln p0))) == true)) (vS y14))),(76,(.ite (true && ((decide (x6 < (ln p0))) == true)) (vI y13))),(75,(.ite (true && ((decide (x6 < (ln p0))) == true)) (vI (IntKind.wrap .i64 (x6 + 2))))),(74,(.ite (true && ((decide (x6 < (ln p0))) == true)) (vI x6))),(73,(.ite (true && ((decide (x6 < (ln p0))) == true)) (vI (ln p0)))),(72,(.ite (true && ((decide (x6 < (ln p0))) == true)) (vS p0))),(71,(.ite (true && ((decide (x6 < (ln p0))) == true)) (vI x6))),(70,(.ite (true && ((decide (x6 < (ln p0))) == true)) (vS p0)))]
   exact st 3 a18 (ni (bn (loop_back (s':=stsL3Pass_L2 p0 x1 (IntKind.wrap .i64 (x6 + 1))) (wr [] (es (es (es er_nil))) br_nil) (OK_sL3Pass_L2 x1 (IntKind.wrap .i64 (x6 + 1)) _ h))))
   refine ei (te (te (bh (xi (si (so ?_))))))
   let a19:St:=a17.p [(85,(vB (decide ((ln p0) ≤ x6)))),(84,(vI (ln p0))),(83,(vS p0)),(82,(vI x6)),(79,(vB y15)),(78,(.ite (true && ((decide (x6 < (ln p0))) == true)) (vB (!decide (y14 = [42, 47]))))),(77,(.ite (true && ((decide (x6 < (ln p0))) == true)) (vS y14))),(76,(.ite (true && ((decide (x6 < (ln p0))) == true)) (vI y13))),(75,(.ite (true && ((decide (x6 < (ln p0))) == true)) (vI (IntKind.wrap .i64 (x6 + 2))))),(74,(.ite (true && ((decide (x6 < (ln p0))) == true)) (vI x6))),(73,(.ite (true && ((decide (x6 < (ln p0))) == true)) (vI (ln p0)))),(72,(.ite (true && ((decide (x6 < (ln p0))) == true)) (vS p0))),(71,(.ite (true && ((decide (x6 < (ln p0))) == true)) (vI x6))),(70,(.ite (true && ((decide (x6 < (ln p0))) == true)) (vS p0)))]
   refine st 4 a19 (nx ?_)
   refine cd h (fun h => ?_) fun h => ?_
   refine so ?_
   let a20:St:=a19.p [(4,(vI (IntKind.wrap .i64 ((IntKind.wrap .i64 (0 - x1)) - 1)))),(88,(vI (IntKind.wrap .i64 ((IntKind.wrap .i64 (0 - x1)) - 1)))),(87,(vI (IntKind.wrap .i64 (0 - x1)))),(86,(vI x1))]
   refine st 4 a20 (nx (ri (tr (br (br (tr (br (tr ?_))))))))
   injection h with h; subst h
   exact r1 (v:=(vI (IntKind.wrap .i64 ((IntKind.wrap .i64 (0 - x1)) - 1))))
   refine ki (xi (oi ?_))
   let a21:St:=a19.p [(1,(vI (IntKind.wrap .i64 (x6 + 2)))),(90,(vI (IntKind.wrap .i64 (x6 + 2)))),(89,(vI x6))]
   exact st 3 a21 (ni (bn (bn (loop_back (s':=stsL3Pass_L0 p0 (IntKind.wrap .i64 (x6 + 2))) (wr [] (es (es er_nil)) br_nil) (OK_sL3Pass_L0 (IntKind.wrap .i64 (x6 + 2)) _ h)))))
 · intro F_sL3Pass_L2 F_sL3Pass_L0 F_sL3Pass_L1 OK_sL3Pass_L2 OK_sL3Pass_L0 OK_sL3Pass_L1 x1 r h
   delta acsL3Pass_L0
   refine loop_unroll (si (so ?_))
   let a1:St:=(stsL3Pass_L0 p0 x1).p [(10,(vB (decide (x1 < (ln p0))))),(9,(vI (ln p0))),(8,(vS p0)),(7,(vI x1))]
   refine st 4 a1 (nx ?_)
   refine cd h (fun h => ?_) fun h => ?_
   refine ki (xi (bi (so ?_)))
   let a2:St:=a1.p [(16,(vI (IntKind.wrap .i64 (x1 + 2)))),(15,(vI x1)),(14,(vI (ln p0))),(13,(vS p0)),(12,(vI x1)),(11,(vS p0))]
   refine st 6 a2 (cs h (OK_sL1Min (ln p0) (IntKind.wrap .i64 (x1 + 2))) fun y1 h => (vs (fun (y:(List UInt8)) => (vS y)) h (fun y hy => vop_sls (b:=p0) (lo:=x1) (hi:=y1) hy kr kr ⟨kr, .i64, kr⟩ ⟨kr, .i64, kr⟩) fun y2 h => ?_))
   let a3:St:=a2.p [(5,(vS y2)),(18,(vS y2)),(17,(vI y1))]
   refine st 1 a3 (nx (bi (so ?_)))
   let a4:St:=a3.p [(22,(vI x1)),(21,(vS p0))]
   refine st 2 a4 (vs (fun (y:Int) => (.d (.i .u8 y))) h (fun y hy => vop_ix (b:=p0) (k:=.i64) hy kr kr kr) fun y3 h => ?_)
   let a5:St:=a4.p [(25,(vB (decide (y3 = 32)))),(24,(vB (decide (y3 = 32)))),(23,(.d (.i .u8 y3)))]
   refine st 2 a5 (gp true (decide (y3 = 32)) (vS p0) (fun hc => vl) (gp true (decide (y3 = 32)) (vI x1) (fun hc => vl) ?_))
   refine gv true (decide (y3 = 32)) (fun (y:Int) => (.d (.i .u8 y))) h (fun y hy hc => vop_ix (b:=p0) (k:=.i64) hy (Eq.trans (b:=([(true && ((decide (y3 = 32)) == false)),(true && ((decide (y3 = 32)) == false))]:List Bool).all id) kr (all_c hc (all_c hc rfl))) kr kr) fun y4 h => (gp true (decide (y3 = 32)) (vB (decide (y4 = 9))) (fun hc => vg hc) ?_)
   refine vs (fun (y:Bool) => (vB y)) h (fun y hy => vop_pickV hy (p:=true) (q:=(true && ((decide (y3 = 32)) == false))) kr kr kr kr (fun _ => rfl) (fun hb => gc_f rfl hb)) fun y5 h => ?_
   let a6:St:=a5.p [(31,(vB y5)),(30,(vB y5)),(29,(.ite (true && ((decide (y3 = 32)) == false)) (vB (decide (y4 = 9))))),(28,(.ite (true && ((decide (y3 = 32)) == false)) (.d (.i .u8 y4)))),(27,(.ite (true && ((decide (y3 = 32)) == false)) (vI x1))),(26,(.ite (true && ((decide (y3 = 32)) == false)) (vS p0)))]
   refine st 1 a6 (gp true y5 (vS p0) (fun hc => vl) (gp true y5 (vI x1) (fun hc => vl) (gv true y5 (fun (y:Int) => (.d (.i .u8 y))) h (fun y hy hc => vop_ix (b:=p0) (k:=.i64) hy (Eq.trans (b:=([(true && (y5 == false)),(true && (y5 == false))]:List Bool).all id) kr (all_c hc (all_c hc rfl))) kr kr) fun y6 h => (gp true y5 (vB (decide (y6 = 10))) (fun hc => vg hc) ?_))))
   refine vs (fun (y:Bool) => (vB y)) h (fun y hy => vop_pickV hy (p:=true) (q:=(true && (y5 == false))) kr kr kr kr (fun _ => rfl) (fun hb => gc_f rfl hb)) fun y7 h => ?_
   let a7:St:=a6.p [(37,(vB y7)),(36,(vB y7)),(35,(.ite (gF y5) (vB (decide (y6 = 10))))),(34,(.ite (gF y5) (.d (.i .u8 y6)))),(33,(.ite (gF y5) (vI x1))),(32,(.ite (gF y5) (vS p0)))]
   refine st 1 a7 (gp true y7 (vS p0) (fun hc => vl) (gp true y7 (vI x1) (fun hc => vl) (gv true y7 (fun (y:Int) => (.d (.i .u8 y))) h (fun y hy hc => vop_ix (b:=p0) (k:=.i64) hy (Eq.trans (b:=([(true && (y7 == false)),(true && (y7 == false))]:List Bool).all id) kr (all_c hc (all_c hc rfl))) kr kr) fun y8 h => (gp true y7 (vB (decide (y8 = 13))) (fun hc => vg hc) ?_))))
   refine vs (fun (y:Bool) => (vB y)) h (fun y hy => vop_pickV hy (p:=true) (q:=(true && (y7 == false))) kr kr kr kr (fun _ => rfl) (fun hb => gc_f rfl hb)) fun y9 h => ?_
   let a8:St:=a7.p [(20,(vB y9)),(42,(vB y9)),(41,(.ite (gF y7) (vB (decide (y8 = 13))))),(40,(.ite (gF y7) (.d (.i .u8 y8)))),(39,(.ite (gF y7) (vI x1))),(38,(.ite (gF y7) (vS p0)))]
   refine st 1 a8 (nx ?_)
   refine cd h (fun h => ?_) fun h => ?_
   refine oi ?_
   let a9:St:=a8.p [(1,(vI (IntKind.wrap .i64 (x1 + 1)))),(44,(vI (IntKind.wrap .i64 (x1 + 1)))),(43,(vI x1))]
   exact st 3 a9 (ni (bn (bn (loop_back (s':=stsL3Pass_L0 p0 (IntKind.wrap .i64 (x1 + 1))) (wr [] (es (es er_nil)) br_nil) (OK_sL3Pass_L0 (IntKind.wrap .i64 (x1 + 1)) _ h)))))
   refine so ?_
   let a10:St:=a8.p [(45,(vB (decide (y2 = [45, 45])))),(47,(vB (decide (y2 = [45, 45])))),(46,(vS y2))]
   refine st 3 a10 (nx ?_)
   refine cd h (fun h => ?_) fun h => ?_
   exact bi (loop_go (s':=stsL3Pass_L1 p0 x1) (wr [] (es (es er_nil)) br_nil) (OK_sL3Pass_L1 x1 _ h))
   refine so ?_
   let a11:St:=a10.p [(60,(vB (decide (y2 = [47, 42])))),(62,(vB (decide (y2 = [47, 42])))),(61,(vS y2))]
   refine st 3 a11 (nx ?_)
   refine cd h (fun h => ?_) fun h => ?_
   refine so ?_
   let a12:St:=a11.p [(6,(vI (IntKind.wrap .i64 (x1 + 2)))),(64,(vI (IntKind.wrap .i64 (x1 + 2)))),(63,(vI x1))]
   exact st 3 a12 (nx (si (bi (loop_go (s':=stsL3Pass_L2 p0 x1 (IntKind.wrap .i64 (x1 + 2))) (wr [] (es (es (es er_nil))) br_nil) (OK_sL3Pass_L2 x1 (IntKind.wrap .i64 (x1 + 2)) _ h)))))
   refine so ?_
   let a13:St:=a11.p [(4,(vI x1)),(19,(vI x1))]
   refine st 2 a13 (nx (ri (br (br (tr (br (tr ?_)))))))
   injection h with h; subst h
   exact r1 (v:=(vI x1))
   refine ei (te (te (bh (xi (so ?_)))))
   let a14:St:=a1.p [(4,(vI x1)),(91,(vI x1))]
   refine st 2 a14 (nx (ri ?_))
   injection h with h; subst h
   exact r1 (v:=(vI x1))
 · intro F_sL3Pass_L0 F_sL3Pass_L1 OK_sL3Pass_L0 OK_sL3Pass_L1 x1_10 r h
   delta acsL3Pass_L1
   refine loop_unroll (si (so ?_))
   let a15:St:=(stsL3Pass_L1 p0 x1_10).p [(52,(vB (decide (x1_10 < (ln p0))))),(51,(vB (decide (x1_10 < (ln p0))))),(50,(vI (ln p0))),(49,(vS p0)),(48,(vI x1_10))]
   refine st 5 a15 (gp true (decide (x1_10 < (ln p0))) (vS p0) (fun hc => vl) (gp true (decide (x1_10 < (ln p0))) (vI x1_10) (fun hc => vl) ?_))
   refine gv true (decide (x1_10 < (ln p0))) (fun (y:Int) => (.d (.i .u8 y))) h (fun y hy hc => vop_ix (b:=p0) (k:=.i64) hy (Eq.trans (b:=([(true && ((decide (x1_10 < (ln p0))) == true)),(true && ((decide (x1_10 < (ln p0))) == true))]:List Bool).all id) kr (all_c hc (all_c hc rfl))) kr kr) fun y11 h => ?_
   refine gp true (decide (x1_10 < (ln p0))) (vB (!decide (y11 = 10))) (fun hc => vg hc) (vs (fun (y:Bool) => (vB y)) h (fun y hy => vop_pickV hy (p:=(true && ((decide (x1_10 < (ln p0))) == true))) (q:=true) kr kr kr kr (fun hb => gc_t rfl hb) (fun _ => rfl)) fun y12 h => (nx ?_))
   refine cd h (fun h => ?_) fun h => ?_
   refine ki (xi (bi (oi ?_)))
   let a16:St:=a15.p [(1,(vI (IntKind.wrap .i64 (x1_10 + 1)))),(59,(vI (IntKind.wrap .i64 (x1_10 + 1)))),(58,(vI x1_10)),(57,(vB y12)),(56,(.ite (true && ((decide (x1_10 < (ln p0))) == true)) (vB (!decide (y11 = 10))))),(55,(.ite (true && ((decide (x1_10 < (ln p0))) == true)) (.d (.i .u8 y11)))),(54,(.ite (true && ((decide (x1_10 < (ln p0))) == true)) (vI x1_10))),(53,(.ite (true && ((decide (x1_10 < (ln p0))) == true)) (vS p0)))]
   exact st 3 a16 (ni (bn (loop_back (s':=stsL3Pass_L1 p0 (IntKind.wrap .i64 (x1_10 + 1))) (wr [] (es (es er_nil)) br_nil) (OK_sL3Pass_L1 (IntKind.wrap .i64 (x1_10 + 1)) _ h))))
   exact ei (te (te (bh (bn (bn (loop_back (s':=stsL3Pass_L0 p0 x1_10) (wr [] (es (es er_nil)) br_nil) (OK_sL3Pass_L0 x1_10 _ h)))))))
theorem OK_sL3Pass_L2 (p0:(List UInt8)) (x1:Int) (x6:Int) (r:Int) (h:sL3Pass_L2 p0 x1 x6 = some r):avc Tryz.prog acsL3Pass_L2 (qsL3Pass_7 r) (stsL3Pass_L2 p0 x1 x6):=(OKs_sL3Pass_L2 p0).1 x1 x6 r h
theorem OK_sL3Pass_L0 (p0:(List UInt8)) (x1:Int) (r:Int) (h:sL3Pass_L0 p0 x1 = some r):avc Tryz.prog acsL3Pass_L0 (qsL3Pass_1 r) (stsL3Pass_L0 p0 x1):=(OKs_sL3Pass_L2 p0).2.1 x1 r h
theorem OK_sL3Pass_L1 (p0:(List UInt8)) (x1_10:Int) (r:Int) (h:sL3Pass_L1 p0 x1_10 = some r):avc Tryz.prog acsL3Pass_L1 (qsL3Pass_5 r) (stsL3Pass_L1 p0 x1_10):=(OKs_sL3Pass_L2 p0).2.2 x1_10 r h
theorem OK_sL3Pass (p0:(List UInt8)) (p1:Int):FOk Tryz.prog 71 [(vS p0),(vI p1)] (fun y => (vI y)) (sL3Pass p0 p1):=by
 intro r h
 rw [sL3Pass] at h
 refine aof trsL3Pass ?_
 show avc Tryz.prog acsL3Pass (qsL3Pass _) ⟨[(0,(vS p0)),(1,(vI p1))], []⟩
 delta acsL3Pass
 refine so ?_
 let a0:St:=⟨[(4,(vI 0)),(0,(vS p0)),(1,(vI p1))], []⟩
 exact st 1 a0 (nx (si (bi (loop_go (s':=stsL3Pass_L0 p0 p1) (wr [] (es (es er_nil)) br_nil) (OK_sL3Pass_L0 p0 p1 _ h)))))
theorem OKs_sLex_L0 (p0:(List UInt8)):(∀ (x4:(List GToken)) (x5:Int) (r:(List GToken) × Int), sLex_L0 p0 x4 x5 = some r → avc Tryz.prog acsLex_L0 (qsLex_0 r) (stsLex_L0 p0 x4 x5)):=by
 refine sLex_L0.partial_correctness p0 (fun x4 x5 r => avc Tryz.prog acsLex_L0 (qsLex_0 r) (stsLex_L0 p0 x4 x5)) ?_
 · intro F_sLex_L0 OK_sLex_L0 x4 x5 r h
   delta acsLex_L0
   refine loop_unroll (bi (so ?_))
   let a5:St:=(stsLex_L0 p0 x4 x5).p [(14,(vI x5)),(13,(vS p0))]
   refine st 2 a5 (cs h (OK_sL3Pass p0 x5) fun y1 h => ?_)
   let a6:St:=a5.p [(5,(vI y1)),(15,(vI y1))]
   refine st 1 a6 (nx (si (so ?_)))
   let a7:St:=a6.p [(17,(vB (decide (y1 < 0)))),(16,(vI y1))]
   refine st 2 a7 (nx ?_)
   refine cd h (fun h => ?_) fun h => ?_
   refine so (bsl_step (l:=([]:List GToken)) (f:=cGToken) (g:=cGToken) kr (fun _ => rfl) kr ?_)
   let a8:St:=a7.p [(3,(vI (IntKind.wrap .i64 ((IntKind.wrap .i64 (0 - y1)) - 1)))),(2,(.osl 2 53 3 (([]:List GToken).map cGToken))),(21,(vI (IntKind.wrap .i64 ((IntKind.wrap .i64 (0 - y1)) - 1)))),(20,(vI (IntKind.wrap .i64 (0 - y1)))),(19,(vI y1)),(18,(.d (.sl 3 (([]:List GToken).map cGToken))))]
   refine st 5 a8 (nx (ret_wk (s':=⟨[(2,(.osl 2000000 53 3 (([]:List GToken).map cGToken))),(3,(vI (IntKind.wrap .i64 ((IntKind.wrap .i64 (0 - y1)) - 1))))], []⟩) (wr [(2000000, .old 2)] (eo 2 (es er_nil)) br_nil) (tr (br (tr (br ?_))))))
   injection h with h; subst h
   exact retn_step (vs:=[(.osl 2000000 53 3 (([]:List GToken).map cGToken)),(vI (IntKind.wrap .i64 ((IntKind.wrap .i64 (0 - y1)) - 1)))]) kr ⟨by kernel_rfl, trivial⟩
   refine ki (xi (si (so ?_)))
   let a9:St:=a7.p [(25,(vB (decide ((ln p0) ≤ y1)))),(24,(vI (ln p0))),(23,(vS p0)),(22,(vI y1))]
   refine st 4 a9 (nx ?_)
   refine cd h (fun h => ?_) fun h => ?_
   refine so ?_
   let a10:St:=⟨[(3,(vI (-1))),(2,(.osl 2 53 3 (x4.map cGToken))),(26,(.d (.sl 3 (x4.map cGToken)))),(25,(vB (decide ((ln p0) ≤ y1)))),(24,(vI (ln p0))),(23,(vS p0)),(22,(vI y1)),(17,(vB (decide (y1 < 0)))),(16,(vI y1)),(5,(vI y1)),(15,(vI y1)),(14,(vI x5)),(13,(vS p0)),(0,(vS p0)),(4,(.d (.sl 3 (x4.map cGToken)))),(5,(vI x5))], []⟩
   refine st 3 a10 (nx (ret_wk (s':=⟨[(2,(.osl 2000000 53 3 (x4.map cGToken))),(3,(vI (-1)))], []⟩) (wr [(2000000, .old 2)] (eo 2 (es er_nil)) br_nil) (tr (br (tr (br ?_))))))
   injection h with h; subst h
   exact retn_step (vs:=[(.osl 2000000 53 3 (x4.map cGToken)),(vI (-1))]) kr ⟨by kernel_rfl, trivial⟩
   refine ki (xi (so ?_))
   let a11:St:=a9.p [(29,(vI y1)),(28,(vS p0))]
   refine st 2 a11 (cs h (OK_sL3One p0 y1) fun y2 h => ?_)
   let a12:St:=⟨(7,(vI y2.2)) :: (6,(.ptr 6 0)) :: (32,(vI y2.2)) :: (31,(vGToken y2.1)) :: (27,(.tup [(vGToken y2.1),(vI y2.2)])) :: (30,(.tup [(vGToken y2.1),(vI y2.2)])) :: a11.env, [(6, bGToken y2.1)]⟩
   refine st 6 a12 (nx (si (so ?_)))
   let a13:St:=a12.p [(34,(vB (decide (y2.2 < 0)))),(33,(vI y2.2))]
   refine st 2 a13 (nx ?_)
   refine cd h (fun h => ?_) fun h => ?_
   refine so (bsl_step (l:=([]:List GToken)) (f:=cGToken) (g:=cGToken) kr (fun _ => rfl) kr ?_)
   let a14:St:=a13.p [(3,(vI y1)),(2,(.osl 2 53 3 (([]:List GToken).map cGToken))),(36,(vI y1)),(35,(.d (.sl 3 (([]:List GToken).map cGToken))))]
   refine st 3 a14 (nx (ret_wk (s':=⟨[(2,(.osl 2000000 53 3 (([]:List GToken).map cGToken))),(3,(vI y1))], []⟩) (wr [(2000000, .old 2)] (eo 2 (es er_nil)) br_nil) (tr (br (tr (br ?_))))))
   injection h with h; subst h
   exact retn_step (vs:=[(.osl 2000000 53 3 (([]:List GToken).map cGToken)),(vI y1)]) kr ⟨by kernel_rfl, trivial⟩
   refine ki (xi (so ?_))
   let a15:St:=a13.p [(38,(vGToken y2.1)),(37,(.osl 4 53 3 (x4.map cGToken)))]
   refine st 2 a15 (bsl_step (l:=([y2.1]:List GToken)) (f:=cGToken) (g:=cGToken) kr (fun _ => rfl) kr ?_)
   refine app_step (t:=4) (l:=x4) (m:=([y2.1]:List GToken)) (f:=cGToken) (S':=fun y => ⟨[(40,(.osl 40 53 3 (y.map cGToken))),(39,(.osl 39 53 3 (([y2.1]:List GToken).map cGToken))),(38,(vGToken y2.1)),(37,(.d (.sl 3 (x4.map cGToken)))),(34,(vB (decide (y2.2 < 0)))),(33,(vI y2.2)),(7,(vI y2.2)),(6,(.ptr 6 0)),(32,(vI y2.2)),(31,(vGToken y2.1)),(27,(.tup [(vGToken y2.1),(vI y2.2)])),(30,(.tup [(vGToken y2.1),(vI y2.2)])),(29,(vI y1)),(28,(vS p0)),(25,(vB (decide ((ln p0) ≤ y1)))),(24,(vI (ln p0))),(23,(vS p0)),(22,(vI y1)),(17,(vB (decide (y1 < 0)))),(16,(vI y1)),(5,(vI y1)),(15,(vI y1)),(14,(vI x5)),(13,(vS p0)),(0,(vS p0)),(4,(.d (.sl 3 (x4.map cGToken)))),(5,(vI x5))], [(6, bGToken y2.1)]⟩) h kr kr kr kr (fun y => by kernel_rfl) ?_
   clear h; intro y3 h
   let a16:St:=⟨[(4,(.osl 4 53 3 (y3.map cGToken))),(40,(.d (.sl 3 (y3.map cGToken)))),(39,(.osl 39 53 3 (([y2.1]:List GToken).map cGToken))),(38,(vGToken y2.1)),(37,(.d (.sl 3 (x4.map cGToken)))),(34,(vB (decide (y2.2 < 0)))),(33,(vI y2.2)),(7,(vI y2.2)),(6,(.ptr 6 0)),(32,(vI y2.2)),(31,(vGToken y2.1)),(27,(.tup [(vGToken y2.1),(vI y2.2)])),(30,(.tup [(vGToken y2.1),(vI y2.2)])),(29,(vI y1)),(28,(vS p0)),(25,(vB (decide ((ln p0) ≤ y1)))),(24,(vI (ln p0))),(23,(vS p0)),(22,(vI y1)),(17,(vB (decide (y1 < 0)))),(16,(vI y1)),(5,(vI y1)),(15,(vI y1)),(14,(vI x5)),(13,(vS p0)),(0,(vS p0)),(4,(.d (.sl 3 (x4.map cGToken)))),(5,(vI x5))], [(6, bGToken y2.1)]⟩
   refine st 1 a16 (nx (oi ?_))
   let a17:St:=a16.p [(5,(vI y2.2)),(41,(vI y2.2))]
   exact st 2 a17 (ni (bn (loop_back (s':=stsLex_L0 p0 y3 y2.2) (wr [(4, .old 4)] (es (eo 4 (es er_nil))) br_nil) (OK_sLex_L0 y3 y2.2 _ h))))
theorem OK_sLex_L0 (p0:(List UInt8)) (x4:(List GToken)) (x5:Int) (r:(List GToken) × Int) (h:sLex_L0 p0 x4 x5 = some r):avc Tryz.prog acsLex_L0 (qsLex_0 r) (stsLex_L0 p0 x4 x5):=(OKs_sLex_L0 p0) x4 x5 r h
theorem OK_sLex (p0:(List UInt8)):FOkB Tryz.prog 39 [(vS p0)] [] (fun (y:(List GToken) × Int) => (.tup [(.osl 2000000 53 3 (y.1.map cGToken)),(vI y.2)])) (fun (y:(List GToken) × Int) => []) (sLex p0):=by
 intro r h
 rw [sLex] at h
 refine aof trsLex ?_
 show avc Tryz.prog acsLex (qsLex _) ⟨[(0,(vS p0))], []⟩
 delta acsLex
 refine so ?_
 let a0:St:=⟨[(3,(vI 0)),(2,(.nil 3)),(0,(vS p0))], []⟩
 refine st 2 a0 (nx (so (bsl_step (l:=([]:List GToken)) (f:=cGToken) (g:=cGToken) kr (fun _ => rfl) kr ?_)))
 let a1:St:=a0.p [(4,(.osl 4 53 3 (([]:List GToken).map cGToken))),(8,(.d (.sl 3 (([]:List GToken).map cGToken))))]
 refine st 1 a1 (nx (si (so ?_)))
 let a2:St:=a1.p [(11,(vB (decide (2000 < (ln p0))))),(10,(vI (ln p0))),(9,(vS p0))]
 refine st 3 a2 (nx ?_)
 refine cd h (fun h => ?_) fun h => ?_
 refine so ?_
 let a3:St:=⟨[(3,(vI 2000)),(2,(.osl 2 53 3 (([]:List GToken).map cGToken))),(12,(.d (.sl 3 (([]:List GToken).map cGToken)))),(11,(vB (decide (2000 < (ln p0))))),(10,(vI (ln p0))),(9,(vS p0)),(4,(.d (.sl 3 (([]:List GToken).map cGToken)))),(8,(.d (.sl 3 (([]:List GToken).map cGToken)))),(3,(vI 0)),(2,(.nil 3)),(0,(vS p0))], []⟩
 refine st 3 a3 (nx (ret_wk (s':=⟨[(2,(.osl 2000000 53 3 (([]:List GToken).map cGToken))),(3,(vI 2000))], []⟩) (wr [(2000000, .old 2)] (eo 2 (es er_nil)) br_nil) (tr ?_)))
 injection h with h; subst h
 exact retn_step (vs:=[(.osl 2000000 53 3 (([]:List GToken).map cGToken)),(vI 2000)]) kr ⟨by kernel_rfl, trivial⟩
 refine ki (xi (so ?_))
 let a4:St:=a2.p [(5,(vI 0))]
 exact st 1 a4 (nx (bi (loop_go (s':=stsLex_L0 p0 ([]:List GToken) 0) (wr [(4, .old 4)] (es (eo 4 (es er_nil))) br_nil) (OK_sLex_L0 p0 ([]:List GToken) 0 _ h))))
theorem OK_sL4Quoted (p0:GToken):FOk Tryz.prog 97 [(vGToken p0)] (fun y => (vB y)) (sL4Quoted p0):=by
 intro r h
 rw [sL4Quoted] at h
 refine aof trsL4Quoted ?_
 show avc Tryz.prog acsL4Quoted (qsL4Quoted _) ⟨[(0,(vGToken p0))], []⟩
 delta acsL4Quoted
 refine so ?_
 let a0:St:=⟨[(2,(vB false)),(1,(.ptr 1 0)),(0,(vGToken p0))], [(1, bGToken p0)]⟩
 refine st 2 a0 (nx (so ?_))
 let a1:St:=a0.p [(6,(vB (decide (p0.kind = 2)))),(5,(vB (decide (p0.kind = 2)))),(4,(vI p0.kind)),(3,(.ptr 1 0))]
 refine st 4 a1 (gp true (decide (p0.kind = 2)) (.ptr 1 1) (fun hc => vl) (gp true (decide (p0.kind = 2)) (vS p0.text) (fun hc => vg hc) ?_))
 refine gcall_step (p:=true) (b:=(decide (p0.kind = 2))) (m:=sPlainName p0.text) (dflt:=default) (args:=[(vS p0.text)]) (v':=(fun y => (vB y))) h kr (OK_sPlainName p0.text) (fun hc => by kernel_rfl) kr (fun _ => rfl) (fun hc => (Eq.trans (b:=([(true && ((decide (p0.kind = 2)) == true))]:List Bool).all id) kr (all_c hc rfl))) ?_
 clear h; intro y1 h
 refine gp true (decide (p0.kind = 2)) (vB (!y1)) (fun hc => vg hc) (vs (fun (y:Bool) => (vB y)) h (fun y hy => vop_pickV hy (p:=(true && ((decide (p0.kind = 2)) == true))) (q:=true) kr kr kr kr (fun hb => gc_t rfl hb) (fun _ => rfl)) fun y2 h => ?_)
 let a2:St:=a1.p [(2,(vB y2)),(11,(vB y2)),(10,(.ite (true && ((decide (p0.kind = 2)) == true)) (vB (!y1)))),(9,(.ite (true && ((decide (p0.kind = 2)) == true)) (vB y1))),(8,(.ite (true && ((decide (p0.kind = 2)) == true)) (vS p0.text))),(7,(.ite (true && ((decide (p0.kind = 2)) == true)) (.ptr 1 1)))]
 refine st 1 a2 (nx (ri ?_))
 injection h with h; subst h
 exact r1 (v:=(vB y2))
theorem OK_sL4Word (p0:GToken):FOk Tryz.prog 96 [(vGToken p0)] (fun y => (vB y)) (sL4Word p0):=by
 intro r h
 rw [sL4Word] at h
 refine aof trsL4Word ?_
 show avc Tryz.prog acsL4Word (qsL4Word _) ⟨[(0,(vGToken p0))], []⟩
 delta acsL4Word
 refine so ?_
 let a0:St:=⟨[(2,(vB false)),(1,(.ptr 1 0)),(0,(vGToken p0))], [(1, bGToken p0)]⟩
 refine st 2 a0 (nx (so ?_))
 let a1:St:=a0.p [(6,(vB (decide (p0.kind = 1)))),(5,(vB (decide (p0.kind = 1)))),(4,(vI p0.kind)),(3,(.ptr 1 0))]
 refine st 4 a1 (gp true (decide (p0.kind = 1)) (.ptr 1 0) (fun hc => vl) (gp true (decide (p0.kind = 1)) (vI p0.kind) (fun hc => vg hc) (gp true (decide (p0.kind = 1)) (vB (decide (p0.kind = 3))) (fun hc => vg hc) ?_)))
 refine vs (fun (y:Bool) => (vB y)) h (fun y hy => vop_pickV hy (p:=true) (q:=(true && ((decide (p0.kind = 1)) == false))) kr kr kr kr (fun _ => rfl) (fun hb => gc_f rfl hb)) fun y1 h => ?_
 let a2:St:=a1.p [(11,(vB y1)),(10,(vB y1)),(9,(.ite (true && ((decide (p0.kind = 1)) == false)) (vB (decide (p0.kind = 3))))),(8,(.ite (true && ((decide (p0.kind = 1)) == false)) (vI p0.kind))),(7,(.ite (true && ((decide (p0.kind = 1)) == false)) (.ptr 1 0)))]
 refine st 1 a2 (gp true y1 (.ptr 1 0) (fun hc => vl) (gp true y1 (vI p0.kind) (fun hc => vg hc) (gp true y1 (vB (decide (p0.kind = 2))) (fun hc => vg hc) (gp true y1 (vB (decide (p0.kind = 2))) (fun hc => vg hc) (gp (true && (y1 == false)) (decide (p0.kind = 2)) (.ptr 1 1) (fun hc => vl) (gp (true && (y1 == false)) (decide (p0.kind = 2)) (vS p0.text) (fun hc => vg hc) ?_))))))
 refine gcall_step (p:=(true && (y1 == false))) (b:=(decide (p0.kind = 2))) (m:=sPlainName p0.text) (dflt:=default) (args:=[(vS p0.text)]) (v':=(fun y => (vB y))) h kr (OK_sPlainName p0.text) (fun hc => by kernel_rfl) kr (fun _ => rfl) (fun hc => (Eq.trans (b:=([((true && (y1 == false)) && ((decide (p0.kind = 2)) == true))]:List Bool).all id) kr (all_c hc rfl))) ?_
 clear h; intro y2 h
 refine gv true y1 (fun (y:Bool) => (vB y)) h (fun y hy hc => vop_pickV hy (p:=((true && (y1 == false)) && ((decide (p0.kind = 2)) == true))) (q:=true) (Eq.trans (b:=([(true && (y1 == false))]:List Bool).all id) kr (all_c hc rfl)) kr kr kr (fun hb => gc_t hc hb) (fun _ => rfl)) fun y3 h => ?_
 refine vs (fun (y:Bool) => (vB y)) h (fun y hy => vop_pickV hy (p:=true) (q:=(true && (y1 == false))) kr kr kr kr (fun _ => rfl) (fun hb => gc_f rfl hb)) fun y4 h => ?_
 let a3:St:=a2.p [(2,(vB y4)),(20,(vB y4)),(19,(.ite (gF y1) (vB y3))),(18,(.ite ((gF y1) && ((decide (p0.kind = 2)) == true)) (vB y2))),(17,(.ite ((gF y1) && ((decide (p0.kind = 2)) == true)) (vS p0.text))),(16,(.ite ((gF y1) && ((decide (p0.kind = 2)) == true)) (.ptr 1 1))),(15,(.ite (gF y1) (vB (decide (p0.kind = 2))))),(14,(.ite (gF y1) (vB (decide (p0.kind = 2))))),(13,(.ite (gF y1) (vI p0.kind))),(12,(.ite (gF y1) (.ptr 1 0)))]
 refine st 1 a3 (nx (ri ?_))
 injection h with h; subst h
 exact r1 (v:=(vB y4))
theorem OK_sNeedsGap (p0:GToken) (p1:GToken):FOk Tryz.prog 49 [(vGToken p0),(vGToken p1)] (fun y => (vB y)) (sNeedsGap p0 p1):=by
 intro r h
 rw [sNeedsGap] at h
 refine aof trsNeedsGap ?_
 show avc Tryz.prog acsNeedsGap (qsNeedsGap _) ⟨[(0,(vGToken p0)),(1,(vGToken p1))], []⟩
 delta acsNeedsGap
 refine so ?_
 let a0:St:=⟨[(4,(vB false)),(3,(.ptr 3 0)),(2,(.ptr 2 0)),(0,(vGToken p0)),(1,(vGToken p1))], [(3, bGToken p1),(2, bGToken p0)]⟩
 refine st 3 a0 (nx (si (so ?_)))
 let a1:St:=a0.p [(5,(vGToken p0))]
 refine st 1 a1 (cs h (OK_sTokenOk p0) fun y1 h => ?_)
 let a2:St:=a1.p [(8,(vB (!y1))),(7,(vB (!y1))),(6,(vB y1))]
 refine st 2 a2 (gp true (!y1) (vGToken p1) (fun hc => vl) (gcall_step (p:=true) (b:=(!y1)) (m:=sTokenOk p1) (dflt:=default) (args:=[(vGToken p1)]) (v':=(fun y => (vB y))) h kr (OK_sTokenOk p1) (fun hc => by kernel_rfl) kr (fun _ => rfl) (fun hc => (Eq.trans (b:=([(true && ((!y1) == false))]:List Bool).all id) kr (all_c hc rfl))) ?_))
 clear h; intro y2 h
 refine gp true (!y1) (vB (!y2)) (fun hc => vg hc) (vs (fun (y:Bool) => (vB y)) h (fun y hy => vop_pickV hy (p:=true) (q:=(true && ((!y1) == false))) kr kr kr kr (fun _ => rfl) (fun hb => gc_f rfl hb)) fun y3 h => (nx ?_))
 refine cd h (fun h => ?_) fun h => ?_
 refine so ?_
 let a3:St:=a2.p [(4,(vB false)),(12,(vB y3)),(11,(.ite (true && ((!y1) == false)) (vB (!y2)))),(10,(.ite (true && ((!y1) == false)) (vB y2))),(9,(.ite (true && ((!y1) == false)) (vGToken p1)))]
 refine st 1 a3 (nx (ri (tr ?_)))
 injection h with h; subst h
 exact r1 (v:=(vB false))
 refine ki (xi (si (so ?_)))
 let a4:St:=a2.p [(13,(vGToken p0)),(12,(vB y3)),(11,(.ite (true && ((!y1) == false)) (vB (!y2)))),(10,(.ite (true && ((!y1) == false)) (vB y2))),(9,(.ite (true && ((!y1) == false)) (vGToken p1)))]
 refine st 1 a4 (cs h (OK_sL4Word p0) fun y4 h => ?_)
 let a5:St:=a4.p [(15,(vB y4)),(14,(vB y4))]
 refine st 1 a5 (gp true y4 (vGToken p1) (fun hc => vl) (gcall_step (p:=true) (b:=y4) (m:=sL4Word p1) (dflt:=default) (args:=[(vGToken p1)]) (v':=(fun y => (vB y))) h kr (OK_sL4Word p1) (fun hc => by kernel_rfl) kr (fun _ => rfl) (fun hc => (Eq.trans (b:=([(true && (y4 == true))]:List Bool).all id) kr (all_c hc rfl))) ?_))
 clear h; intro y5 h
 refine vs (fun (y:Bool) => (vB y)) h (fun y hy => vop_pickV hy (p:=(true && (y4 == true))) (q:=true) kr kr kr kr (fun hb => gc_t rfl hb) (fun _ => rfl)) fun y6 h => ?_
 let a6:St:=a5.p [(19,(vB y6)),(18,(vB y6)),(17,(.ite (gT y4) (vB y5))),(16,(.ite (gT y4) (vGToken p1)))]
 refine st 1 a6 (gp true y6 (.ptr 2 0) (fun hc => vl) (gp true y6 (vI p0.kind) (fun hc => vg hc) (gp true y6 (vB (decide (p0.kind = 4))) (fun hc => vg hc) (gp true y6 (vB (decide (p0.kind = 4))) (fun hc => vg hc) (gp (true && (y6 == false)) (decide (p0.kind = 4)) (.ptr 3 0) (fun hc => vl) (gp (true && (y6 == false)) (decide (p0.kind = 4)) (vI p1.kind) (fun hc => vg hc) ?_))))))
 refine gp (true && (y6 == false)) (decide (p0.kind = 4)) (vB (decide (p1.kind = 4))) (fun hc => vg hc) ?_
 refine gv true y6 (fun (y:Bool) => (vB y)) h (fun y hy hc => vop_pickV hy (p:=((true && (y6 == false)) && ((decide (p0.kind = 4)) == true))) (q:=true) (Eq.trans (b:=([(true && (y6 == false))]:List Bool).all id) kr (all_c hc rfl)) kr kr kr (fun hb => gc_t hc hb) (fun _ => rfl)) fun y7 h => ?_
 refine vs (fun (y:Bool) => (vB y)) h (fun y hy => vop_pickV hy (p:=true) (q:=(true && (y6 == false))) kr kr kr kr (fun _ => rfl) (fun hb => gc_f rfl hb)) fun y8 h => ?_
 let a7:St:=a6.p [(29,(vB y8)),(28,(vB y8)),(27,(.ite (gF y6) (vB y7))),(26,(.ite ((gF y6) && ((decide (p0.kind = 4)) == true)) (vB (decide (p1.kind = 4))))),(25,(.ite ((gF y6) && ((decide (p0.kind = 4)) == true)) (vI p1.kind))),(24,(.ite ((gF y6) && ((decide (p0.kind = 4)) == true)) (.ptr 3 0))),(23,(.ite (gF y6) (vB (decide (p0.kind = 4))))),(22,(.ite (gF y6) (vB (decide (p0.kind = 4))))),(21,(.ite (gF y6) (vI p0.kind))),(20,(.ite (gF y6) (.ptr 2 0)))]
 refine st 1 a7 (gp true y8 (vGToken p0) (fun hc => vl) (gcall_step (p:=true) (b:=y8) (m:=sL4Quoted p0) (dflt:=default) (args:=[(vGToken p0)]) (v':=(fun y => (vB y))) h kr (OK_sL4Quoted p0) (fun hc => by kernel_rfl) kr (fun _ => rfl) (fun hc => (Eq.trans (b:=([(true && (y8 == false))]:List Bool).all id) kr (all_c hc rfl))) ?_))
 clear h; intro y9 h
 refine gp true y8 (vB y9) (fun hc => vg hc) (gp (true && (y8 == false)) y9 (vGToken p1) (fun hc => vl) ?_)
 refine gcall_step (p:=(true && (y8 == false))) (b:=y9) (m:=sL4Quoted p1) (dflt:=default) (args:=[(vGToken p1)]) (v':=(fun y => (vB y))) h kr (OK_sL4Quoted p1) (fun hc => by kernel_rfl) kr (fun _ => rfl) (fun hc => (Eq.trans (b:=([((true && (y8 == false)) && (y9 == true))]:List Bool).all id) kr (all_c hc rfl))) ?_
 clear h; intro y10 h
 refine gv true y8 (fun (y:Bool) => (vB y)) h (fun y hy hc => vop_pickV hy (p:=((true && (y8 == false)) && (y9 == true))) (q:=true) (Eq.trans (b:=([(true && (y8 == false))]:List Bool).all id) kr (all_c hc rfl)) kr kr kr (fun hb => gc_t hc hb) (fun _ => rfl)) fun y11 h => ?_
 refine vs (fun (y:Bool) => (vB y)) h (fun y hy => vop_pickV hy (p:=true) (q:=(true && (y8 == false))) kr kr kr kr (fun _ => rfl) (fun hb => gc_f rfl hb)) fun y12 h => (nx ?_)
 refine cd h (fun h => ?_) fun h => ?_
 refine so ?_
 let a8:St:=a7.p [(4,(vB true)),(36,(vB y12)),(35,(.ite (gF y8) (vB y11))),(34,(.ite ((gF y8) && (y9 == true)) (vB y10))),(33,(.ite ((gF y8) && (y9 == true)) (vGToken p1))),(32,(.ite (gF y8) (vB y9))),(31,(.ite (gF y8) (vB y9))),(30,(.ite (gF y8) (vGToken p0)))]
 refine st 1 a8 (nx (ri (tr ?_)))
 injection h with h; subst h
 exact r1 (v:=(vB true))
 refine ki (xi (si (so ?_)))
 let a9:St:=a7.p [(40,(vB (!decide (p0.kind = 5)))),(39,(vB (!decide (p0.kind = 5)))),(38,(vI p0.kind)),(37,(.ptr 2 0)),(36,(vB y12)),(35,(.ite (gF y8) (vB y11))),(34,(.ite ((gF y8) && (y9 == true)) (vB y10))),(33,(.ite ((gF y8) && (y9 == true)) (vGToken p1))),(32,(.ite (gF y8) (vB y9))),(31,(.ite (gF y8) (vB y9))),(30,(.ite (gF y8) (vGToken p0)))]
 refine st 4 a9 (gp true (!decide (p0.kind = 5)) (.ptr 3 0) (fun hc => vl) (gp true (!decide (p0.kind = 5)) (vI p1.kind) (fun hc => vg hc) (gp true (!decide (p0.kind = 5)) (vB (!decide (p1.kind = 5))) (fun hc => vg hc) ?_)))
 refine vs (fun (y:Bool) => (vB y)) h (fun y hy => vop_pickV hy (p:=true) (q:=(true && ((!decide (p0.kind = 5)) == false))) kr kr kr kr (fun _ => rfl) (fun hb => gc_f rfl hb)) fun y13 h => (nx ?_)
 refine cd h (fun h => ?_) fun h => ?_
 refine so ?_
 let a10:St:=a9.p [(4,(vB false)),(44,(vB y13)),(43,(.ite (true && ((!decide (p0.kind = 5)) == false)) (vB (!decide (p1.kind = 5))))),(42,(.ite (true && ((!decide (p0.kind = 5)) == false)) (vI p1.kind))),(41,(.ite (true && ((!decide (p0.kind = 5)) == false)) (.ptr 3 0)))]
 refine st 1 a10 (nx (ri (tr ?_)))
 injection h with h; subst h
 exact r1 (v:=(vB false))
 refine ki (xi (si (so ?_)))
 let a11:St:=a9.p [(46,(vS p0.text)),(45,(.ptr 2 1)),(44,(vB y13)),(43,(.ite (true && ((!decide (p0.kind = 5)) == false)) (vB (!decide (p1.kind = 5))))),(42,(.ite (true && ((!decide (p0.kind = 5)) == false)) (vI p1.kind))),(41,(.ite (true && ((!decide (p0.kind = 5)) == false)) (.ptr 3 0)))]
 refine st 2 a11 (nx (bi (so ?_)))
 let a12:St:=a11.p [(47,(vB (decide (p0.text = [45])))),(48,(vB (decide (p0.text = [45]))))]
 refine st 2 a12 (nx ?_)
 refine cd h (fun h => ?_) fun h => ?_
 refine so ?_
 let a13:St:=a12.p [(4,(vB (decide (p1.text = [45])))),(51,(vB (decide (p1.text = [45])))),(50,(vS p1.text)),(49,(.ptr 3 1))]
 refine st 4 a13 (nx (ri (br (tr ?_))))
 injection h with h; subst h
 exact r1 (v:=(vB (decide (p1.text = [45]))))
 refine so ?_
 let a14:St:=a12.p [(52,(vB (decide (p0.text = [47])))),(53,(vB (decide (p0.text = [47]))))]
 refine st 2 a14 (nx ?_)
 refine cd h (fun h => ?_) fun h => ?_
 refine so ?_
 let a15:St:=a14.p [(4,(vB (decide (p1.text = [42])))),(56,(vB (decide (p1.text = [42])))),(55,(vS p1.text)),(54,(.ptr 3 1))]
 refine st 4 a15 (nx (ri (br (tr ?_))))
 injection h with h; subst h
 exact r1 (v:=(vB (decide (p1.text = [42]))))
 refine so ?_
 let a16:St:=a14.p [(57,(vB (decide (p0.text = [60])))),(58,(vB (decide (p0.text = [60]))))]
 refine st 2 a16 (nx ?_)
 refine cd h (fun h => ?_) fun h => ?_
 refine so ?_
 let a17:St:=a16.p [(60,(vS p1.text)),(59,(.ptr 3 1))]
 refine st 2 a17 (vs (fun (y:Int) => (.d (.i .u8 y))) h (fun y hy => vop_ix (b:=p1.text) (k:=.i64) hy kr kr kr) fun y14 h => ?_)
 let a18:St:=a17.p [(63,(vB (decide (y14 = 61)))),(62,(vB (decide (y14 = 61)))),(61,(.d (.i .u8 y14)))]
 refine st 2 a18 (gp true (decide (y14 = 61)) (.ptr 3 1) (fun hc => vl) (gp true (decide (y14 = 61)) (vS p1.text) (fun hc => vg hc) (gv true (decide (y14 = 61)) (fun (y:Int) => (.d (.i .u8 y))) h (fun y hy hc => vop_ix (b:=p1.text) (k:=.i64) hy (Eq.trans (b:=([(true && ((decide (y14 = 61)) == false))]:List Bool).all id) kr (all_c hc rfl)) kr kr) fun y15 h => ?_)))
 refine gp true (decide (y14 = 61)) (vB (decide (y15 = 62))) (fun hc => vg hc) (vs (fun (y:Bool) => (vB y)) h (fun y hy => vop_pickV hy (p:=true) (q:=(true && ((decide (y14 = 61)) == false))) kr kr kr kr (fun _ => rfl) (fun hb => gc_f rfl hb)) fun y16 h => ?_)
 let a19:St:=a18.p [(4,(vB y16)),(68,(vB y16)),(67,(.ite (true && ((decide (y14 = 61)) == false)) (vB (decide (y15 = 62))))),(66,(.ite (true && ((decide (y14 = 61)) == false)) (.d (.i .u8 y15)))),(65,(.ite (true && ((decide (y14 = 61)) == false)) (vS p1.text))),(64,(.ite (true && ((decide (y14 = 61)) == false)) (.ptr 3 1)))]
 refine st 1 a19 (nx (ri (br (tr ?_))))
 injection h with h; subst h
 exact r1 (v:=(vB y16))
 refine so ?_
 let a20:St:=a16.p [(69,(vB (decide (p0.text = [62])))),(70,(vB (decide (p0.text = [62]))))]
 refine st 2 a20 (nx ?_)
 refine cd h (fun h => ?_) fun h => ?_
 refine so ?_
 let a21:St:=a20.p [(72,(vS p1.text)),(71,(.ptr 3 1))]
 refine st 2 a21 (vs (fun (y:Int) => (.d (.i .u8 y))) h (fun y hy => vop_ix (b:=p1.text) (k:=.i64) hy kr kr kr) fun y17 h => ?_)
 let a22:St:=a21.p [(4,(vB (decide (y17 = 61)))),(74,(vB (decide (y17 = 61)))),(73,(.d (.i .u8 y17)))]
 refine st 2 a22 (nx (ri (br (tr ?_))))
 injection h with h; subst h
 exact r1 (v:=(vB (decide (y17 = 61))))
 refine ki (bn (xi (so ?_)))
 let a23:St:=a20.p [(4,(vB false))]
 refine st 1 a23 (nx (ri ?_))
 injection h with h; subst h
 exact r1 (v:=(vB false))
theorem OKs_sL4Join_J1 (p0:(List GToken)) (p1:Bool):(∀ (x6:Int) (x5_9:(List Int)) (r:(List UInt8)), sL4Join_J1 p0 p1 x6 x5_9 = some r → avc Tryz.prog acsL4Join_J1 (qsL4Join_4 r) (stsL4Join_J1 p0 p1 x6 x5_9)) ∧ (∀ (x5:(List Int)) (x6:Int) (r:(List UInt8)), sL4Join_L0 p0 p1 x5 x6 = some r → avc Tryz.prog acsL4Join_L0 (qsL4Join_1 r) (stsL4Join_L0 p0 p1 x5 x6)):=by
 refine sL4Join_J1.mutual_partial_correctness p0 p1 (fun x6 x5_9 r => avc Tryz.prog acsL4Join_J1 (qsL4Join_4 r) (stsL4Join_J1 p0 p1 x6 x5_9)) (fun x5 x6 r => avc Tryz.prog acsL4Join_L0 (qsL4Join_1 r) (stsL4Join_L0 p0 p1 x5 x6)) ?_ ?_
 · intro F_sL4Join_L0 OK_sL4Join_L0 x6 x5_9 r h
   delta acsL4Join_J1
   refine oi ?_
   let a17:St:=(stsL4Join_J1 p0 p1 x6 x5_9).p [(42,(vI x6)),(41,(.d (.sl 3 (p0.map cGToken)))),(40,(.osl 5 5 1 (x5_9.map cU8)))]
   refine st 3 a17 (vs (fun (y:GToken) => (.rp (cGToken y))) h (fun y hy => via (l:=p0) (f:=cGToken) (g:=cGToken) (k:=.i64) hy (fun _ => rfl)) fun y11 h => ?_)
   let a18:St:=a17.p [(44,(vGToken y11)),(43,(.rp (cGToken y11)))]
   refine st 1 a18 (cs h (OK_sTokenText y11) fun y12 h => ?_)
   refine app_step (t:=5) (l:=x5_9) (m:=(toBytes y12)) (f:=cU8) (S':=fun y => ⟨[(46,(.osl 46 5 1 (y.map cU8))),(45,(vS y12)),(44,(vGToken y11)),(43,(.rp (cGToken y11))),(42,(vI x6)),(41,(.d (.sl 3 (p0.map cGToken)))),(40,(.d (.sl 1 (x5_9.map cU8)))),(0,(.d (.sl 3 (p0.map cGToken)))),(1,(vB p1)),(5,(.d (.sl 1 (x5_9.map cU8)))),(6,(vI x6))], []⟩) h kr kr kr kr (fun y => by kernel_rfl) ?_
   clear h; intro y13 h
   let a19:St:=⟨[(5,(.osl 5 5 1 (y13.map cU8))),(46,(.d (.sl 1 (y13.map cU8)))),(45,(vS y12)),(44,(vGToken y11)),(43,(.rp (cGToken y11))),(42,(vI x6)),(41,(.d (.sl 3 (p0.map cGToken)))),(40,(.d (.sl 1 (x5_9.map cU8)))),(0,(.d (.sl 3 (p0.map cGToken)))),(1,(vB p1)),(5,(.d (.sl 1 (x5_9.map cU8)))),(6,(vI x6))], []⟩
   refine st 1 a19 (ni (bn (xi (oi ?_))))
   let a20:St:=a19.p [(6,(vI (IntKind.wrap .i64 (x6 + 1)))),(13,(vI (IntKind.wrap .i64 (x6 + 1)))),(12,(vI x6))]
   exact st 3 a20 (ni (loop_back (s':=stsL4Join_L0 p0 p1 y13 (IntKind.wrap .i64 (x6 + 1))) (wr [(5, .old 5)] (es (es (eo 5 (es er_nil)))) br_nil) (OK_sL4Join_L0 y13 (IntKind.wrap .i64 (x6 + 1)) _ h)))
 · intro F_sL4Join_J1 OK_sL4Join_J1 x5 x6 r h
   delta acsL4Join_L0
   refine loop_unroll (si (so ?_))
   let a3:St:=(stsL4Join_L0 p0 p1 x5 x6).p [(9,(.d (.sl 3 (p0.map cGToken)))),(8,(vI x6))]
   refine st 2 a3 (ps (vI (ln p0)) (vln (sz:=3) (l:=p0) (f:=cGToken)) ?_)
   let a4:St:=a3.p [(11,(vB (decide (x6 < (ln p0))))),(10,(vI (ln p0)))]
   refine st 1 a4 (nx ?_)
   refine cd h (fun h => ?_) fun h => ?_
   refine ki (xi (si (bi (si (so ?_)))))
   let a5:St:=a4.p [(15,(vI x6)),(14,(.d (.sl 3 (p0.map cGToken))))]
   refine st 2 a5 (vs (fun (y:GToken) => (.rp (cGToken y))) h (fun y hy => via (l:=p0) (f:=cGToken) (g:=cGToken) (k:=.i64) hy (fun _ => rfl)) fun y1 h => ?_)
   let a6:St:=a5.p [(17,(vGToken y1)),(16,(.rp (cGToken y1)))]
   refine st 1 a6 (cs h (OK_sTokenOk y1) fun y2 h => ?_)
   let a7:St:=a6.p [(19,(vB (!y2))),(18,(vB y2))]
   refine st 1 a7 (nx ?_)
   refine cd h (fun h => ?_) fun h => ?_
   refine so ?_
   let a8:St:=a7.p [(4,(vS []))]
   refine st 1 a8 (nx (ri (tr (br (tr (tr (br (tr ?_))))))))
   injection h with h; subst h
   exact r1 (v:=(vS []))
   refine ki (xi (si (si (dops_in ?_))))
   let a9:St:=a7.p [(22,(vB (decide (0 < x6)))),(21,(vB (decide (0 < x6)))),(20,(vI x6))]
   refine dsts_ok 3 (s':=a9) kr (dgp_step (p:=true) (b:=(decide (0 < x6))) (v':=(vB p1)) kr rfl rfl (fun hc => vl) (dgp_step (p:=true) (b:=(decide (0 < x6))) (v':=(vB p1)) kr rfl rfl (fun hc => vg hc) (dgp_step (p:=(true && ((decide (0 < x6)) == true))) (b:=p1) (v':=(.d (.sl 3 (p0.map cGToken)))) kr rfl rfl (fun hc => vl) ?_)))
   refine dgp_step (p:=(true && ((decide (0 < x6)) == true))) (b:=p1) (v':=(vI x6)) kr rfl rfl (fun hc => vl) (dgp_step (p:=(true && ((decide (0 < x6)) == true))) (b:=p1) (v':=(vI (IntKind.wrap .i64 (x6 - 1)))) kr rfl rfl (fun hc => vg hc) ?_)
   refine dgv_step (p:=(true && ((decide (0 < x6)) == true))) (b:=p1) (m:=idx p0 (IntKind.wrap .i64 (x6 - 1))) (dflt:=default) (v':=fun y => (.rp (cGToken y))) h kr rfl rfl (fun y hy hc => vop_ia (l:=p0) (f:=cGToken) (g:=cGToken) (k:=.i64) hy (fun _ => rfl) (Eq.trans (b:=([((true && ((decide (0 < x6)) == true)) && (p1 == false)),((true && ((decide (0 < x6)) == true)) && (p1 == false))]:List Bool).all id) kr (all_c hc (all_c hc rfl))) kr kr) ?_
   clear h; intro y3 h
   refine dgp_step (p:=(true && ((decide (0 < x6)) == true))) (b:=p1) (v':=(vGToken y3)) kr rfl rfl (fun hc => vg hc) (dgp_step (p:=(true && ((decide (0 < x6)) == true))) (b:=p1) (v':=(.d (.sl 3 (p0.map cGToken)))) kr rfl rfl (fun hc => vl) (dgp_step (p:=(true && ((decide (0 < x6)) == true))) (b:=p1) (v':=(vI x6)) kr rfl rfl (fun hc => vl) ?_))
   refine dgv_step (p:=(true && ((decide (0 < x6)) == true))) (b:=p1) (m:=idx p0 x6) (dflt:=default) (v':=fun y => (.rp (cGToken y))) h kr rfl rfl (fun y hy hc => vop_ia (l:=p0) (f:=cGToken) (g:=cGToken) (k:=.i64) hy (fun _ => rfl) (Eq.trans (b:=([((true && ((decide (0 < x6)) == true)) && (p1 == false)),((true && ((decide (0 < x6)) == true)) && (p1 == false))]:List Bool).all id) kr (all_c hc (all_c hc rfl))) kr kr) ?_
   clear h; intro y4 h
   refine dgp_step (p:=(true && ((decide (0 < x6)) == true))) (b:=p1) (v':=(vGToken y4)) kr rfl rfl (fun hc => vg hc) ?_
   refine dgcall_step (p:=(true && ((decide (0 < x6)) == true))) (b:=p1) (m:=sNeedsGap y3 y4) (dflt:=default) (args:=[(vGToken y3),(vGToken y4)]) (v':=(fun y => (vB y))) h kr (OK_sNeedsGap y3 y4) (fun hc => by kernel_rfl) kr (fun _ => rfl) (fun hc => (Eq.trans (b:=([((true && ((decide (0 < x6)) == true)) && (p1 == false)),((true && ((decide (0 < x6)) == true)) && (p1 == false))]:List Bool).all id) kr (all_c hc (all_c hc rfl)))) ?_
   clear h; intro y5 h
   refine dgv_step (p:=true) (b:=(decide (0 < x6))) (m:=some (if p1 = true then true else y5)) (dflt:=default) (v':=fun y => (vB y)) h kr rfl rfl (fun y hy hc => vop_pickV hy (p:=true) (q:=((true && ((decide (0 < x6)) == true)) && (p1 == false))) (Eq.trans (b:=([(true && ((decide (0 < x6)) == true))]:List Bool).all id) kr (all_c hc rfl)) kr kr kr (fun _ => rfl) (fun hb => gc_f hc hb)) ?_
   clear h; intro y6 h
   refine dv_step (m:=some (if (decide (0 < x6)) = true then y6 else false)) (v':=fun y => (vB y)) h rfl rfl (fun y hy => vop_pickV hy (p:=(true && ((decide (0 < x6)) == true))) (q:=true) kr kr kr kr (fun hb => gc_t rfl hb) (fun _ => rfl)) ?_
   clear h; intro y7 h
   refine dnil_in kr kr (xi ?_)
   refine cd h (fun h => ?_) fun h => ?_
   refine oi ?_
   let a10:St:=a9.p [(37,(.osl 5 5 1 (x5.map cU8))),(36,(vB y7)),(35,(.ite (true && ((decide (0 < x6)) == true)) (vB y6))),(34,(.ite ((true && ((decide (0 < x6)) == true)) && (p1 == false)) (vB y5))),(33,(.ite ((true && ((decide (0 < x6)) == true)) && (p1 == false)) (vGToken y4))),(32,(.ite ((true && ((decide (0 < x6)) == true)) && (p1 == false)) (.rp (cGToken y4)))),(31,(.ite ((true && ((decide (0 < x6)) == true)) && (p1 == false)) (vI x6))),(30,(.ite ((true && ((decide (0 < x6)) == true)) && (p1 == false)) (.d (.sl 3 (p0.map cGToken))))),(29,(.ite ((true && ((decide (0 < x6)) == true)) && (p1 == false)) (vGToken y3))),(28,(.ite ((true && ((decide (0 < x6)) == true)) && (p1 == false)) (.rp (cGToken y3)))),(27,(.ite ((true && ((decide (0 < x6)) == true)) && (p1 == false)) (vI (IntKind.wrap .i64 (x6 - 1))))),(26,(.ite ((true && ((decide (0 < x6)) == true)) && (p1 == false)) (vI x6))),(25,(.ite ((true && ((decide (0 < x6)) == true)) && (p1 == false)) (.d (.sl 3 (p0.map cGToken))))),(24,(.ite (true && ((decide (0 < x6)) == true)) (vB p1))),(23,(.ite (true && ((decide (0 < x6)) == true)) (vB p1)))]
   refine st 1 a10 (bsl_step (l:=([32]:List Int)) (f:=cU8) (g:=cU8) kr (fun _ => rfl) kr ?_)
   refine app_step (t:=5) (l:=x5) (m:=([32]:List Int)) (f:=cU8) (S':=fun y => ⟨[(39,(.osl 39 5 1 (y.map cU8))),(38,(.osl 38 5 1 (([32]:List Int).map cU8))),(37,(.d (.sl 1 (x5.map cU8)))),(36,(vB y7)),(35,(.ite (true && ((decide (0 < x6)) == true)) (vB y6))),(34,(.ite ((true && ((decide (0 < x6)) == true)) && (p1 == false)) (vB y5))),(33,(.ite ((true && ((decide (0 < x6)) == true)) && (p1 == false)) (vGToken y4))),(32,(.ite ((true && ((decide (0 < x6)) == true)) && (p1 == false)) (.rp (cGToken y4)))),(31,(.ite ((true && ((decide (0 < x6)) == true)) && (p1 == false)) (vI x6))),(30,(.ite ((true && ((decide (0 < x6)) == true)) && (p1 == false)) (.d (.sl 3 (p0.map cGToken))))),(29,(.ite ((true && ((decide (0 < x6)) == true)) && (p1 == false)) (vGToken y3))),(28,(.ite ((true && ((decide (0 < x6)) == true)) && (p1 == false)) (.rp (cGToken y3)))),(27,(.ite ((true && ((decide (0 < x6)) == true)) && (p1 == false)) (vI (IntKind.wrap .i64 (x6 - 1))))),(26,(.ite ((true && ((decide (0 < x6)) == true)) && (p1 == false)) (vI x6))),(25,(.ite ((true && ((decide (0 < x6)) == true)) && (p1 == false)) (.d (.sl 3 (p0.map cGToken))))),(24,(.ite (true && ((decide (0 < x6)) == true)) (vB p1))),(23,(.ite (true && ((decide (0 < x6)) == true)) (vB p1))),(22,(vB (decide (0 < x6)))),(21,(vB (decide (0 < x6)))),(20,(vI x6)),(19,(vB (!y2))),(18,(vB y2)),(17,(vGToken y1)),(16,(.rp (cGToken y1))),(15,(vI x6)),(14,(.d (.sl 3 (p0.map cGToken)))),(11,(vB (decide (x6 < (ln p0))))),(10,(vI (ln p0))),(9,(.d (.sl 3 (p0.map cGToken)))),(8,(vI x6)),(0,(.d (.sl 3 (p0.map cGToken)))),(1,(vB p1)),(5,(.d (.sl 1 (x5.map cU8)))),(6,(vI x6))], []⟩) h kr kr kr kr (fun y => by kernel_rfl) ?_
   clear h; intro y8 h
   let a11:St:=⟨[(5,(.osl 5 5 1 (y8.map cU8))),(39,(.d (.sl 1 (y8.map cU8)))),(38,(.osl 38 5 1 (([32]:List Int).map cU8))),(37,(.d (.sl 1 (x5.map cU8)))),(36,(vB y7)),(35,(.ite (true && ((decide (0 < x6)) == true)) (vB y6))),(34,(.ite ((true && ((decide (0 < x6)) == true)) && (p1 == false)) (vB y5))),(33,(.ite ((true && ((decide (0 < x6)) == true)) && (p1 == false)) (vGToken y4))),(32,(.ite ((true && ((decide (0 < x6)) == true)) && (p1 == false)) (.rp (cGToken y4)))),(31,(.ite ((true && ((decide (0 < x6)) == true)) && (p1 == false)) (vI x6))),(30,(.ite ((true && ((decide (0 < x6)) == true)) && (p1 == false)) (.d (.sl 3 (p0.map cGToken))))),(29,(.ite ((true && ((decide (0 < x6)) == true)) && (p1 == false)) (vGToken y3))),(28,(.ite ((true && ((decide (0 < x6)) == true)) && (p1 == false)) (.rp (cGToken y3)))),(27,(.ite ((true && ((decide (0 < x6)) == true)) && (p1 == false)) (vI (IntKind.wrap .i64 (x6 - 1))))),(26,(.ite ((true && ((decide (0 < x6)) == true)) && (p1 == false)) (vI x6))),(25,(.ite ((true && ((decide (0 < x6)) == true)) && (p1 == false)) (.d (.sl 3 (p0.map cGToken))))),(24,(.ite (true && ((decide (0 < x6)) == true)) (vB p1))),(23,(.ite (true && ((decide (0 < x6)) == true)) (vB p1))),(22,(vB (decide (0 < x6)))),(21,(vB (decide (0 < x6)))),(20,(vI x6)),(19,(vB (!y2))),(18,(vB y2)),(17,(vGToken y1)),(16,(.rp (cGToken y1))),(15,(vI x6)),(14,(.d (.sl 3 (p0.map cGToken)))),(11,(vB (decide (x6 < (ln p0))))),(10,(vI (ln p0))),(9,(.d (.sl 3 (p0.map cGToken)))),(8,(vI x6)),(0,(.d (.sl 3 (p0.map cGToken)))),(1,(vB p1)),(5,(.d (.sl 1 (x5.map cU8)))),(6,(vI x6))], []⟩
   exact st 1 a11 (ni (next_step (s':=stsL4Join_J1 p0 p1 x6 y8) (wr [(5, .old 5)] (es (es (eo 5 (es er_nil)))) br_nil) (OK_sL4Join_J1 x6 y8 _ h)))
   exact ki (next_step (s':=stsL4Join_J1 p0 p1 x6 x5) (wr [(5, .old 5)] (es (es (eo 5 (es er_nil)))) br_nil) (OK_sL4Join_J1 x6 x5 _ h))
   refine ei (te (te (bh (xi (si (so ?_))))))
   let a12:St:=a4.p [(47,(.osl 5 5 1 (x5.map cU8)))]
   refine st 1 a12 (ps (vI (ln x5)) (vln (sz:=1) (l:=x5) (f:=cU8)) ?_)
   let a13:St:=a12.p [(49,(vB (decide (2000 < (ln x5))))),(48,(vI (ln x5)))]
   refine st 1 a13 (nx ?_)
   refine cd h (fun h => ?_) fun h => ?_
   refine so ?_
   let a14:St:=a13.p [(4,(vS []))]
   refine st 1 a14 (nx (ri (tr ?_)))
   injection h with h; subst h
   exact r1 (v:=(vS []))
   refine ki (xi (so ?_))
   let a15:St:=a13.p [(50,(.osl 5 5 1 (x5.map cU8)))]
   refine st 1 a15 (vs (fun (y:(List UInt8)) => (vS y)) h (fun y hy => vop_cbs (l:=x5) hy kr kr) fun y10 h => ?_)
   let a16:St:=a15.p [(4,(vS y10)),(51,(vS y10))]
   refine st 1 a16 (nx (ri ?_))
   injection h with h; subst h
   exact r1 (v:=(vS y10))
theorem OK_sL4Join_J1 (p0:(List GToken)) (p1:Bool) (x6:Int) (x5_9:(List Int)) (r:(List UInt8)) (h:sL4Join_J1 p0 p1 x6 x5_9 = some r):avc Tryz.prog acsL4Join_J1 (qsL4Join_4 r) (stsL4Join_J1 p0 p1 x6 x5_9):=(OKs_sL4Join_J1 p0 p1).1 x6 x5_9 r h
theorem OK_sL4Join_L0 (p0:(List GToken)) (p1:Bool) (x5:(List Int)) (x6:Int) (r:(List UInt8)) (h:sL4Join_L0 p0 p1 x5 x6 = some r):avc Tryz.prog acsL4Join_L0 (qsL4Join_1 r) (stsL4Join_L0 p0 p1 x5 x6):=(OKs_sL4Join_J1 p0 p1).2 x5 x6 r h
theorem OK_sL4Join (p0:(List GToken)) (p1:Bool):FOk Tryz.prog 29 [(.d (.sl 3 (p0.map cGToken))),(vB p1)] (fun y => (vS y)) (sL4Join p0 p1):=by
 intro r h
 rw [sL4Join] at h
 refine aof trsL4Join ?_
 show avc Tryz.prog acsL4Join (qsL4Join _) ⟨[(0,(.d (.sl 3 (p0.map cGToken)))),(1,(vB p1))], []⟩
 delta acsL4Join
 refine so ?_
 let a0:St:=⟨[(4,(vS [])),(0,(.d (.sl 3 (p0.map cGToken)))),(1,(vB p1))], []⟩
 refine st 1 a0 (nx (so (bsl_step (l:=([]:List Int)) (f:=cU8) (g:=cU8) kr (fun _ => rfl) kr ?_)))
 let a1:St:=a0.p [(5,(.osl 5 5 1 (([]:List Int).map cU8))),(7,(.d (.sl 1 (([]:List Int).map cU8))))]
 refine st 1 a1 (nx (si (so ?_)))
 let a2:St:=a1.p [(6,(vI 0))]
 exact st 1 a2 (nx (bi (loop_go (s':=stsL4Join_L0 p0 p1 ([]:List Int) 0) (wr [(5, .old 5)] (es (es (eo 5 (es er_nil)))) br_nil) (OK_sL4Join_L0 p0 p1 ([]:List Int) 0 _ h))))
theorem OK_sSpaced (p0:(List GToken)):FOk Tryz.prog 14 [(.d (.sl 3 (p0.map cGToken)))] (fun y => (vS y)) (sSpaced p0):=by
 intro r h
 rw [sSpaced] at h
 refine aof trsSpaced ?_
 show avc Tryz.prog acsSpaced (qsSpaced _) ⟨[(0,(.d (.sl 3 (p0.map cGToken))))], []⟩
 delta acsSpaced
 refine so ?_
 let a0:St:=⟨[(2,(vS [])),(0,(.d (.sl 3 (p0.map cGToken))))], []⟩
 refine st 1 a0 (nx (so ?_))
 let a1:St:=a0.p [(3,(.d (.sl 3 (p0.map cGToken))))]
 refine st 1 a1 (cs h (OK_sL4Join p0 false) fun y1 h => ?_)
 let a2:St:=a1.p [(2,(vS y1)),(4,(vS y1))]
 refine st 1 a2 (nx (ri ?_))
 injection h with h; subst h
 exact r1 (v:=(vS y1))
theorem OK_sSqueeze (p0:(List UInt8)):FOk Tryz.prog 20 [(vS p0)] (fun y => (.tup [(vS y.1),(vI y.2)])) (sSqueeze p0):=by
 intro r h
 rw [sSqueeze] at h
 refine aof trsSqueeze ?_
 show avc Tryz.prog acsSqueeze (qsSqueeze _) ⟨[(0,(vS p0))], []⟩
 delta acsSqueeze
 refine so ?_
 let a0:St:=⟨[(3,(vI 0)),(2,(vS [])),(0,(vS p0))], []⟩
 refine st 2 a0 (nx (so ?_))
 let a1:St:=a0.p [(7,(vS p0))]
 refine st 1 a1 (callg_step ⟨[], [], [], [], [], [(2000000, 5007000)], [], [5007000], []⟩ (m:=sLex p0) (S':=fun (y:(List GToken) × Int) => ⟨(8,(.tup [(.osl 5007000 53 3 (y.1.map cGToken)),(vI y.2)])) :: a1.env, a1.bx⟩) h (OK_sLex p0) kr kr kr kr (fun y => by kernel_rfl) (fun y => by kernel_rfl) ?_)
 clear h; intro y1 h
 let a2:St:=a1.p [(5,(vI y1.2)),(4,(.osl 4 53 3 (y1.1.map cGToken))),(10,(vI y1.2)),(9,(.d (.sl 3 (y1.1.map cGToken)))),(6,(.tup [(.d (.sl 3 (y1.1.map cGToken))),(vI y1.2)])),(8,(.tup [(.d (.sl 3 (y1.1.map cGToken))),(vI y1.2)]))]
 refine st 5 a2 (nx (si (so ?_)))
 let a3:St:=a2.p [(12,(vB (decide (0 ≤ y1.2)))),(11,(vI y1.2))]
 refine st 2 a3 (nx ?_)
 refine cd h (fun h => ?_) fun h => ?_
 refine so ?_
 let a4:St:=a3.p [(3,(vI y1.2)),(2,(vS [])),(13,(vI y1.2))]
 refine st 3 a4 (nx (ri (tr ?_)))
 injection h with h; subst h
 exact retn_step (vs:=[(vS []),(vI y1.2)]) kr kr
 refine ki (xi (so ?_))
 let a5:St:=a3.p [(14,(.osl 4 53 3 (y1.1.map cGToken)))]
 refine st 1 a5 (cs h (OK_sSpaced y1.1) fun y2 h => ?_)
 let a6:St:=a5.p [(3,(vI (-1))),(2,(vS y2)),(15,(vS y2))]
 refine st 2 a6 (nx (ri ?_))
 injection h with h; subst h
 exact retn_step (vs:=[(vS y2),(vI (-1))]) kr kr
theorem OK_wBig (p0:(List Int)):FOk Tryz.prog 16 [(.d (.sl 1 (p0.map cU8)))] (fun y => (vB y)) (wBig p0):=by
 intro r h
 rw [wBig] at h
 refine aof trwBig ?_
 show avc Tryz.prog acwBig (qwBig _) ⟨[(0,(.d (.sl 1 (p0.map cU8))))], []⟩
 delta acwBig
 refine so ?_
 let a0:St:=⟨[(2,(vB false)),(0,(.d (.sl 1 (p0.map cU8))))], []⟩
 refine st 1 a0 (nx (so ?_))
 let a1:St:=a0.p [(3,(.d (.sl 1 (p0.map cU8))))]
 refine st 1 a1 (ps (vI (ln p0)) (vln (sz:=1) (l:=p0) (f:=cU8)) ?_)
 let a2:St:=a1.p [(2,(vB (decide (1048576 < (ln p0))))),(5,(vB (decide (1048576 < (ln p0))))),(4,(vI (ln p0)))]
 refine st 2 a2 (nx (ri ?_))
 injection h with h; subst h
 exact r1 (v:=(vB (decide (1048576 < (ln p0)))))
theorem OK_wFnSqueeze (p0:(List Int)):FOk Tryz.prog 8 [(.d (.sl 1 (p0.map cU8)))] (fun y => (vB y)) (wFnSqueeze p0):=by
 intro r h
 rw [wFnSqueeze] at h
 refine aof trwFnSqueeze ?_
 show avc Tryz.prog acwFnSqueeze (qwFnSqueeze _) ⟨[(0,(.d (.sl 1 (p0.map cU8))))], []⟩
 delta acwFnSqueeze
 refine so ?_
 let a0:St:=⟨[(2,(vB false)),(0,(.d (.sl 1 (p0.map cU8))))], []⟩
 refine st 1 a0 (nx (si (so ?_)))
 let a1:St:=a0.p [(10,(.d (.sl 1 (p0.map cU8))))]
 refine st 1 a1 (cs h (OK_wBig p0) fun y1 h => (nx ?_))
 refine cd h (fun h => ?_) fun h => ?_
 refine so ?_
 let a2:St:=a1.p [(2,(vB true)),(11,(vB y1))]
 refine st 1 a2 (nx (ri (tr ?_)))
 injection h with h; subst h
 exact r1 (v:=(vB true))
 refine ki (xi (so ?_))
 let a3:St:=a1.p [(12,(.d (.sl 1 (p0.map cU8)))),(11,(vB y1))]
 refine st 1 a3 (cs h (OK_sDrawSqueeze p0) fun y2 h => ?_)
 let a4:St:=a3.p [(3,(vS y2)),(13,(vS y2))]
 refine st 1 a4 (nx (so ?_))
 let a5:St:=a4.p [(15,(vS y2))]
 refine st 1 a5 (cs h (OK_iSqueeze y2) fun y3 h => ?_)
 let a6:St:=a5.p [(5,(vI y3.2)),(4,(vS y3.1)),(18,(vI y3.2)),(17,(vS y3.1)),(14,(.tup [(vS y3.1),(vI y3.2)])),(16,(.tup [(vS y3.1),(vI y3.2)]))]
 refine st 5 a6 (nx (so ?_))
 let a7:St:=a6.p [(20,(vS y2))]
 refine st 1 a7 (cs h (OK_sSqueeze y2) fun y4 h => ?_)
 let a8:St:=a7.p [(7,(vI y4.2)),(6,(vS y4.1)),(23,(vI y4.2)),(22,(vS y4.1)),(19,(.tup [(vS y4.1),(vI y4.2)])),(21,(.tup [(vS y4.1),(vI y4.2)]))]
 refine st 5 a8 (nx (si (so ?_)))
 let a9:St:=a8.p [(26,(vB (!decide (y3.2 = y4.2)))),(25,(vI y4.2)),(24,(vI y3.2))]
 refine st 3 a9 (nx ?_)
 refine cd h (fun h => ?_) fun h => ?_
 refine so ?_
 let a10:St:=a9.p [(2,(vB false))]
 refine st 1 a10 (nx (ri (tr ?_)))
 injection h with h; subst h
 exact r1 (v:=(vB false))
 refine ki (xi (si (so ?_)))
 let a11:St:=a9.p [(28,(vB (decide (0 ≤ y3.2)))),(27,(vI y3.2))]
 refine st 2 a11 (nx ?_)
 refine cd h (fun h => ?_) fun h => ?_
 refine so ?_
 let a12:St:=a11.p [(2,(vB (decide (y3.1 = [])))),(30,(vB (decide (y3.1 = [])))),(29,(vS y3.1))]
 refine st 3 a12 (nx (ri (tr ?_)))
 injection h with h; subst h
 exact r1 (v:=(vB (decide (y3.1 = []))))
 refine ki (xi (so ?_))
 let a13:St:=a11.p [(32,(vS y3.1))]
 refine st 1 a13 (cs h (OK_iSqueeze y3.1) fun y5 h => ?_)
 let a14:St:=a13.p [(9,(vI y5.2)),(8,(vS y5.1)),(35,(vI y5.2)),(34,(vS y5.1)),(31,(.tup [(vS y5.1),(vI y5.2)])),(33,(.tup [(vS y5.1),(vI y5.2)]))]
 refine st 5 a14 (nx (so ?_))
 let a15:St:=a14.p [(38,(vB (decide (y5.2 = (-1))))),(37,(vB (decide (y5.2 = (-1))))),(36,(vI y5.2))]
 refine st 3 a15 (gp true (decide (y5.2 = (-1))) (vS y5.1) (fun hc => vl) (gp true (decide (y5.2 = (-1))) (vS y3.1) (fun hc => vl) (gp true (decide (y5.2 = (-1))) (vB (decide (y5.1 = y3.1))) (fun hc => vop_val1 (Eq.trans (b:=([(true && ((decide (y5.2 = (-1))) == true)),(true && ((decide (y5.2 = (-1))) == true))]:List Bool).all id) kr (all_c hc (all_c hc rfl))) kr) ?_)))
 refine vs (fun (y:Bool) => (vB y)) h (fun y hy => vop_pickV hy (p:=(true && ((decide (y5.2 = (-1))) == true))) (q:=true) kr kr kr kr (fun hb => gc_t rfl hb) (fun _ => rfl)) fun y6 h => ?_
 let a16:St:=a15.p [(43,(vB y6)),(42,(vB y6)),(41,(.ite (true && ((decide (y5.2 = (-1))) == true)) (vB (decide (y5.1 = y3.1))))),(40,(.ite (true && ((decide (y5.2 = (-1))) == true)) (vS y3.1))),(39,(.ite (true && ((decide (y5.2 = (-1))) == true)) (vS y5.1)))]
 refine st 1 a16 (gp true y6 (vS y3.1) (fun hc => vl) (gp true y6 (vI (ln y3.1)) (fun hc => vg hc) (gp true y6 (vS y2) (fun hc => vl) (gp true y6 (vI (ln y2)) (fun hc => vg hc) (gp true y6 (vI (IntKind.wrap .i64 ((ln y2) + 20))) (fun hc => vg hc) ?_)))))
 refine gp true y6 (vB (decide ((ln y3.1) ≤ (IntKind.wrap .i64 ((ln y2) + 20))))) (fun hc => vop_val1 (Eq.trans (b:=([(true && (y6 == true)),(true && (y6 == true))]:List Bool).all id) kr (all_c hc (all_c hc rfl))) kr) ?_
 refine vs (fun (y:Bool) => (vB y)) h (fun y hy => vop_pickV hy (p:=(true && (y6 == true))) (q:=true) kr kr kr kr (fun hb => gc_t rfl hb) (fun _ => rfl)) fun y7 h => ?_
 let a17:St:=a16.p [(2,(vB y7)),(50,(vB y7)),(49,(.ite (gT y6) (vB (decide ((ln y3.1) ≤ (IntKind.wrap .i64 ((ln y2) + 20))))))),(48,(.ite (gT y6) (vI (IntKind.wrap .i64 ((ln y2) + 20))))),(47,(.ite (gT y6) (vI (ln y2)))),(46,(.ite (gT y6) (vS y2))),(45,(.ite (gT y6) (vI (ln y3.1)))),(44,(.ite (gT y6) (vS y3.1)))]
 refine st 1 a17 (nx (ri ?_))
 injection h with h; subst h
 exact r1 (v:=(vB y7))
theorem law_wFnSqueeze (hp:∀ (x0:(List Int)) (_:(okL okU8) x0), wFnSqueeze x0 = some true) (ls:List (List D)) (hw:WtA Tryz.prog [29] ls) (hok:∀ l ∈ ls, ∀ x ∈ l, OkD x):ACalls Tryz.prog 8 (argsV Tryz.prog [29] ls) [] fun x _ => x = .d (.b true):=by
  rcases hw with _ | ⟨h0, hw⟩
  cases hw
  obtain ⟨x0, rfl⟩:=de29 h0
  have a0:argV Tryz.prog 29 ((cSl 1 cU8) x0) = (.d (.sl 1 (x0.map cU8))):=by kernel_rfl
  have k0:∀ d ∈ (cSl 1 cU8) x0, OkD d:=hok _ (by simp)
  simp only [argsV, a0]
  exact OK_wFnSqueeze x0 true (hp x0 (ko_l _ (fun y hy => ko_u8 _ hy) k0))
end Go.Proofs.YtechmmnknmdacaaGreatDoor
