/- That the code computes these functions (printed by a program). -/
import Derived.Lib.Builder
import Derived.Lib.UnsafeStr
import Derived.Test.YtflhmnfmihkbmabDoorAbB
import Derived.Test.YtflhmnfmihkbmabDoorAbP
import Derived.Test.YtflhmnfmihkbmabDoorAbQ
import Derived.KernelRfl
import Derived.Test.YtflhmnfmihkbmabDoorAbG2
import Derived.Test.YtflhmnfmihkbmabDoorAbC3
import Derived.Test.YtflhmnfmihkbmabDoorAbX1
import Derived.Test.YtflhmnfmihkbmabDoorFEmptyDb
import Derived.Test.YtflhmnfmihkbmabDoorProg
namespace Go.Proofs.YtflhmnfmihkbmabDoor
open Go Go.RowKit Go.Ab
attribute [local irreducible] avc aops aop dgo retQ thenK blockK wkK drawK stz dstz ACalls eff CallN.st
def cI (n : Int) : List D := [.i .i64 n]
def cU8 (n : Int) : List D := [.i .u8 n]
def cU64 (n : Int) : List D := [.i .u64 n]
def cI32 (n : Int) : List D := [.i .i32 n]
def cU32 (n : Int) : List D := [.i .u32 n]
def cB (b : Bool) : List D := [.b b]
def cStr (s : List UInt8) : List D := [.s (bs s)]
def cSl {α : Type} (sz : Nat) (f : α → List D) (l : List α) : List D := [.sl sz (l.map f)]
def cGCol (x : GCol) : List D := [(.s (bs x.name)), (.i .i64 x.type)]
def vGCol (x : GCol) : V := .agg (cGCol x)
def bGCol (x : GCol) : List V := (cGCol x).map V.d
def cGTable (x : GTable) : List D := [(.s (bs x.name)), (.sl 2 (x.cols.map cGCol))]
def vGTable (x : GTable) : V := .agg (cGTable x)
def bGTable (x : GTable) : List V := (cGTable x).map V.d
def cGCatalog (x : GCatalog) : List D := [(.sl 2 (x.tables.map cGTable))]
def vGCatalog (x : GCatalog) : V := .agg (cGCatalog x)
def bGCatalog (x : GCatalog) : List V := (cGCatalog x).map V.d
def cGValue (x : GValue) : List D := [(.i .i64 x.kind), (.i .i64 x.num), (.s (bs x.text))]
def vGValue (x : GValue) : V := .agg (cGValue x)
def bGValue (x : GValue) : List V := (cGValue x).map V.d
def cGData (x : GData) : List D := [(.sl 1 (x.rows.map (cSl 3 cGValue)))]
def vGData (x : GData) : V := .agg (cGData x)
def bGData (x : GData) : List V := (cGData x).map V.d
def cGDb (x : GDb) : List D := [(.sl 1 (x.tables.map cGData))]
def vGDb (x : GDb) : V := .agg (cGDb x)
def bGDb (x : GDb) : List V := (cGDb x).map V.d
def cGL1Cur (x : GL1Cur) : List D := [(.sl 1 (x.b.map cU8)), (.i .i64 x.i), (.i .i64 x.h)]
def vGL1Cur (x : GL1Cur) : V := .agg (cGL1Cur x)
def bGL1Cur (x : GL1Cur) : List V := (cGL1Cur x).map V.d
instance : Enc GTable := ⟨cGTable, cGTable, (fun _ => rfl)⟩
instance : Enc (List GValue) := ⟨(cSl 3 cGValue), (cSl 3 cGValue), (fun _ => rfl)⟩
instance : Enc GValue := ⟨cGValue, cGValue, (fun _ => rfl)⟩
instance : Enc GCol := ⟨cGCol, cGCol, (fun _ => rfl)⟩
instance : Enc GData := ⟨cGData, cGData, (fun _ => rfl)⟩
instance : Enc (List UInt8) := ⟨cStr, cStr, (fun _ => rfl)⟩
def acwFnEmptyDb : AC := (.seq (.ops [.asg 2 (kB false)]) (.seq (.seq (.ops [.mv 5 0, .call (some 6) 4 [5]]) (.cond 6 (.seq (.ops [.asg 2 (kB true)]) .ret) .skip)) (.seq (.ops [.mv 7 0, .call (some 8) 5 [7], .alc 3 [(.nil 2)], .st 1 3 8]) (.seq (.ops [.ld 9 1 true 3, .call (some 10) 6 [9], .alc 4 [(.nil 1)], .st 1 4 10]) (.seq (.dops [[], [], [0, 1], [], [3, 2], [2, 4], [5, 4], [6], [7, 6], [8, 6], [6], [10, 6], [11, 6], [9, 12, 6], [6, 13], [14, 6], [15], [15], [16, 17, 15, 15], [15, 18], [19, 18], [20, 20], [21, 20], [20, 22], [23, 21, 0, 1, 2, 3, 4, 5, 6, 7, 8, 9, 10, 11, 12, 13, 14, 15, 16, 17, 18, 19, 20, 21, 22, 23]] [.ld 11 1 true 3, .ld 12 1 true 4, .call (some 13) 7 [11, 12], .ld 14 1 true 3, .call (some 15) 8 [14], .eqb 16 false 13 15, .mv 17 16, .g 17 true (.fa 18 0 4), .g 17 true (.ld 19 1 false 18), .g 17 true (.len 20 19), .g 17 true (.fa 21 0 3), .g 17 true (.ld 22 1 false 21), .g 17 true (.len 23 22), .g 17 true (.bin 24 .eql 20 23), .pick 25 17 24 (kB false), .mv 26 25, .g 26 true (.ld 27 1 true 4), .g 26 true (.ld 28 1 true 4), .g 26 true (.call (some 29) 9 [27, 28]), .pick 30 26 29 (kB false), .mv 31 30, .g 31 true (.call (some 32) 10 [(.c (.nil 1))]), .g 31 true (.bin 33 .eql 32 (.c (.d (.s (bs []))))), .pick 34 31 33 (kB false), .asg 2 34]) .ret)))))
theorem trwFnEmptyDb : trFn Tryd.prog 3 = some (acwFnEmptyDb, [.mv 0 2], 35) := by kernel_rfl
def qwFnEmptyDb (r : Bool) : Exit → St → Prop := retQ [.mv 0 2] fun x _ => x = (fun y => (vB y)) r
def aciEmptyDb : AC := (.seq (.ops [.box 1 26 0, .alc 2 [(.nil 1)]]) (.seq (.ops [.fa 3 0 1, .ld 4 1 false 3, .len 5 4, .mks 6 41 1 24 [(.sl 1 [])] 5 5, .bld 7 [(.nil 1)] [(0, 1, 6)], .st 1 2 7]) .ret))
theorem triEmptyDb : trFn Tryd.prog 6 = some (aciEmptyDb, [.ld 0 1 true 2], 8) := by kernel_rfl
def qiEmptyDb (r : GDb) : Exit → St → Prop := retQ [.ld 0 1 true 2] fun x _ => x = (fun y => (vGDb y)) r
def acsL1New_L0 : AC := (.loop (.seq (.seq (.ops [.mv 8 4, .mv 9 0, .len 10 9, .bin 11 .lss 8 10, .mv 12 11, .g 12 true (.mv 13 4), .g 12 true (.bin 14 .lss 13 (kI 4000)), .pick 15 12 14 (kB false)]) (.cond 15 .skip (.exit 0))) (.seq (.block 1 (.ops [.mv 18 3, .bin 19 .mul 18 (kI 131), .mv 20 0, .mv 21 4, .ia 22 1 20 21, .ld 23 1 false 22, .cvi 24 .i64 23, .bin 25 .add 19 24, .bin 26 .add 25 (kI 7), .bin 27 .and 26 (kI 1073741823), .asg 3 27])) (.ops [.mv 16 4, .bin 17 .add 16 (kI 1), .asg 4 17]))))
def ccsL1New_0 : AC := (.seq (.ops [.mv 28 0, .mv 29 3, .bld 30 [(.nil 1), (.d (.i .i64 0)), (.d (.i .i64 0))] [(0, 1, 28), (2, 1, 29)], .box 31 75 30, .asg 2 31]) .ret)
def acsL1New : AC := (.seq (.ops [.asg 2 (.c .np)]) (.seq (.ops [.mv 5 0, .len 6 5, .bin 7 .add (kI 28322) 6, .asg 3 7]) (.seq (.seq (.ops [.asg 4 (kI 0)]) (.block 0 acsL1New_L0)) ccsL1New_0)))
theorem trsL1New : trFn Tryd.prog 12 = some (acsL1New, [.mv 0 2], 32) := by kernel_rfl
def qsL1New (r : GL1Cur) : Exit → St → Prop := retQ [.mv 0 2] fun x b => x = (fun (y : GL1Cur) => (.ptr 31 0)) r ∧ bxHas ((fun (y : GL1Cur) => [(31, bGL1Cur y)]) r) b
def qsL1New_0 (r : GL1Cur) : Exit → St → Prop := (thenK (wkK (avc Tryd.prog ccsL1New_0 (qsL1New r))) (qsL1New r))
def qsL1New_1 (r : GL1Cur) : Exit → St → Prop := (blockK 0 (qsL1New_0 r))
def stsL1New_L0 (p0 : (List Int)) (x3 : Int) (x4 : Int) : St := ⟨[(0, (.d (.sl 1 (p0.map cU8)))), (3, (vI x3)), (4, (vI x4))], []⟩
abbrev mosL1New_L0 (p0 : (List Int)) (x3 : Int) (x4 : Int) (r : GL1Cur) : Prop := avc Tryd.prog acsL1New_L0 (qsL1New_1 r) (stsL1New_L0 p0 x3 x4)
def aciRowsText_J2 : AC := (.ops [.ld 25 3 true 7, .call (some 26) 26 [25], .call (some 27) 25 [3, 26]])
def cciRowsText_3 : AC := (.ops [.bin 28 .add 17 (kI 1), .mv 17 28])
def aciRowsText_L1 : AC := (.loop (.seq (.ops [.bin 18 .lss 17 16]) (.seq (.cond 18 .skip (.exit 2)) (.seq (.block 3 (.seq (.ops [.mv 19 17, .ia 20 3 15 17, .ld 21 3 true 20, .alc 7 [(.d (.i .i64 0)), (.d (.i .i64 0)), (.d (.s (bs [])))], .asg 6 19, .st 3 7 21]) (.seq (.seq (.ops [.mv 22 6, .bin 23 .gtr 22 (kI 0)]) (.cond 23 (.ops [.call (some 24) 25 [3, (.c (.d (.s (bs [124]))))]]) .skip)) aciRowsText_J2))) cciRowsText_3))))
def cciRowsText_1 : AC := (.ops [.call (some 29) 25 [3, (.c (.d (.s (bs [10]))))]])
def cciRowsText_2 : AC := (.ops [.bin 30 .add 11 (kI 1), .mv 11 30])
def aciRowsText_L0 : AC := (.loop (.seq (.ops [.bin 12 .lss 11 10]) (.seq (.cond 12 .skip (.exit 0)) (.seq (.block 1 (.seq (.ops [.ia 13 1 9 11, .ld 14 1 false 13, .asg 5 14]) (.seq (.seq (.ops [.mv 15 5, .len 16 15, .mv 17 (kI 0)]) (.block 2 aciRowsText_L1)) cciRowsText_1))) cciRowsText_2))))
def cciRowsText_0 : AC := (.seq (.ops [.call (some 31) 27 [3], .asg 2 31]) .ret)
def aciRowsText : AC := (.seq (.ops [.asg 2 (.c (.d (.s (bs []))))]) (.seq (.ops [.bld 8 [.np, (.nil 1)] [], .alc 3 [(.bp 3 62), (.nil 1)], .st 2 3 8]) (.seq (.seq (.ops [.mv 9 0, .len 10 9, .mv 11 (kI 0)]) (.block 0 aciRowsText_L0)) cciRowsText_0)))
theorem triRowsText : trFn Tryd.prog 10 = some (aciRowsText, [.mv 0 2], 32) := by kernel_rfl
def qiRowsText (r : (List UInt8)) : Exit → St → Prop := retQ [.mv 0 2] fun x _ => x = (fun y => (vS y)) r
def qiRowsText_0 (r : (List UInt8)) : Exit → St → Prop := (thenK (wkK (avc Tryd.prog cciRowsText_0 (qiRowsText r))) (qiRowsText r))
def qiRowsText_1 (r : (List UInt8)) : Exit → St → Prop := (blockK 0 (qiRowsText_0 r))
def qiRowsText_2 (r : (List UInt8)) : Exit → St → Prop := (thenK (avc Tryd.prog aciRowsText_L0 (qiRowsText_1 r)) (qiRowsText_1 r))
def qiRowsText_3 (r : (List UInt8)) : Exit → St → Prop := (thenK (wkK (avc Tryd.prog cciRowsText_2 (qiRowsText_2 r))) (qiRowsText_2 r))
def qiRowsText_4 (r : (List UInt8)) : Exit → St → Prop := (blockK 1 (qiRowsText_3 r))
def qiRowsText_5 (r : (List UInt8)) : Exit → St → Prop := (thenK (wkK (avc Tryd.prog cciRowsText_1 (qiRowsText_4 r))) (qiRowsText_4 r))
def qiRowsText_6 (r : (List UInt8)) : Exit → St → Prop := (blockK 2 (qiRowsText_5 r))
def qiRowsText_7 (r : (List UInt8)) : Exit → St → Prop := (thenK (avc Tryd.prog aciRowsText_L1 (qiRowsText_6 r)) (qiRowsText_6 r))
def qiRowsText_8 (r : (List UInt8)) : Exit → St → Prop := (thenK (wkK (avc Tryd.prog cciRowsText_3 (qiRowsText_7 r))) (qiRowsText_7 r))
def qiRowsText_9 (r : (List UInt8)) : Exit → St → Prop := (blockK 3 (qiRowsText_8 r))
def stiRowsText_L0 (p0 : (List (List GValue))) (x11 : Int) (b3_1 : (List Int)) : St := ⟨[(3, (.ptr 3 0)), (9, (.d (.sl 1 (p0.map (cSl 3 cGValue))))), (10, (vI (p0.length : Int))), (11, (vI x11))], [(3, [(.bp 3 62), (.osl 5072501 5 1 (b3_1.map cU8))])]⟩
abbrev moiRowsText_L0 (p0 : (List (List GValue))) (x11 : Int) (b3_1 : (List Int)) (r : (List UInt8)) : Prop := avc Tryd.prog aciRowsText_L0 (qiRowsText_1 r) (stiRowsText_L0 p0 x11 b3_1)
def stiRowsText_L1 (p0 : (List (List GValue))) (x11 : Int) (y1 : (List GValue)) (x17 : Int) (b3_1_2 : (List Int)) : St := ⟨[(3, (.ptr 3 0)), (9, (.d (.sl 1 (p0.map (cSl 3 cGValue))))), (10, (vI (p0.length : Int))), (11, (vI x11)), (15, (.d (.sl 3 (y1.map cGValue)))), (16, (vI (y1.length : Int))), (17, (vI x17))], [(3, [(.bp 3 62), (.osl 5072501 5 1 (b3_1_2.map cU8))])]⟩
abbrev moiRowsText_L1 (p0 : (List (List GValue))) (x11 : Int) (y1 : (List GValue)) (x17 : Int) (b3_1_2 : (List Int)) (r : (List UInt8)) : Prop := avc Tryd.prog aciRowsText_L1 (qiRowsText_6 r) (stiRowsText_L1 p0 x11 y1 x17 b3_1_2)
def stiRowsText_J2 (p0 : (List (List GValue))) (x11 : Int) (y1 : (List GValue)) (x17 : Int) (y4 : GValue) (b3_1_6 : (List Int)) : St := ⟨[(3, (.ptr 3 0)), (7, (.ptr 7 0)), (9, (.d (.sl 1 (p0.map (cSl 3 cGValue))))), (10, (vI (p0.length : Int))), (11, (vI x11)), (15, (.d (.sl 3 (y1.map cGValue)))), (16, (vI (y1.length : Int))), (17, (vI x17))], [(3, [(.bp 3 62), (.osl 5062501 5 1 (b3_1_6.map cU8))]), (7, bGValue y4)]⟩
abbrev moiRowsText_J2 (p0 : (List (List GValue))) (x11 : Int) (y1 : (List GValue)) (x17 : Int) (y4 : GValue) (b3_1_6 : (List Int)) (r : (List UInt8)) : Prop := avc Tryd.prog aciRowsText_J2 (qiRowsText_9 r) (stiRowsText_J2 p0 x11 y1 x17 y4 b3_1_6)
def acgStrings_Builder_WriteString_x : AC := (.seq (.ops [.asg 4 (kI 0), .asg 5 (.c .top)]) (.seq (.ops [.mv 6 0, .call (some 7) 38 [6]]) (.seq (.ops [.mv 8 0, .mv 9 0, .nck 10 9, .fa 11 1 10, .ld 12 1 false 11, .mv 13 1, .app 14 5 1 1 12 13, .nck 15 8, .fa 16 1 15, .st 1 16 14]) (.seq (.ops [.mv 17 1, .lns 18 17, .asg 4 18, .asg 5 (.c .top)]) .ret))))
theorem trgStrings_Builder_WriteString_x : trFn Tryd.prog 25 = some (acgStrings_Builder_WriteString_x, [.mv 0 4, .mv 0 5], 19) := by kernel_rfl
def qgStrings_Builder_WriteString_x (r : Int × (List Int)) : Exit → St → Prop := retQ [.mv 0 4, .mv 0 5] fun x b => x = (fun (y : Int × (List Int)) => (.tup [(vI y.1), .top])) r ∧ bxHas ((fun (y : Int × (List Int)) => [(1000000, [(.bp 1000000 62), (.osl 6000001 5 1 (y.2.map cU8))])]) r) b
set_option maxHeartbeats 2000000 in
set_option maxRecDepth 100000 in
theorem cc_used_38 : ∀ (b : Nat) (w : World), w.cell? ⟨b, 0, none⟩ = some (.pointer (some ⟨b, 0, none⟩)) → Calls Tryd.prog 38 #[.pointer (some ⟨b, 0, none⟩)] w fun e w' => e = .returned (.tuple #[]) ∧ w' = w := by
  intro b w h0
  go_enter Tryd.func38, Tryd.ntmps38
  go_wp2
  rw [Lib.run_neq_ptr_same w _ (show Tryd.prog.underlying 60 = some (.pointer 62) by kernel_rfl) (show Tryd.prog.info? 62 = some Tryd.t62 by kernel_rfl)]
  go_wp2
  go_end0
  exact ⟨rfl, rfl⟩
set_option maxHeartbeats 2000000 in
set_option maxRecDepth 100000 in
theorem cc_fresh_38_62 : ∀ (b : Nat) (w : World) (cs : Array Value), w.heap[b]? = some (.cells cs 62 (0, 0)) → cs.size = 2 → cs[0]? = some (.pointer none) →
    Calls Tryd.prog 38 #[.pointer (some ⟨b, 0, none⟩)] w fun e w' => e = .returned (.tuple #[]) ∧ w' = w.setCell ⟨b, 0, none⟩ (.pointer (some ⟨b, 0, none⟩)) := by
  intro b w cs hh hn hc
  have h0 : w.cell? ⟨b, 0, none⟩ = some (.pointer none) := by rw [cell_of_row w b 0 cs 62 (0, 0) hh]; exact hc
  have hsh : w.shape? b = some (62, 2) := by simp [World.shape?, hh, hn]
  have hfz : w.frozen? ⟨b, 0, none⟩ = false := by simp [World.frozen?, hh]
  go_enter Tryd.func38, Tryd.ntmps38
  go_wp2
  rw [Lib.run_to_unsafe w ⟨b, 0, none⟩ (show Tryd.prog.underlying 60 = some (.pointer 62) by kernel_rfl) (show Tryd.prog.underlying 92 = some (.unsafePointer) by kernel_rfl) (show Tryd.prog.info? 62 = some Tryd.t62 by kernel_rfl) (by decide +kernel) hsh (Nat.zero_lt_succ 1)]
  simp only [Result.andThen]
  rw [Oper.upon_value]
  go_wp2
  rw [run_callFunc_extern Tryd.func53 (by kernel_rfl) (by kernel_rfl) (by kernel_rfl) (e := Extern.AbiNoEscape.same) (by kernel_rfl)]
  rw [Lib.run_noEscape]
  simp only [Result.andThen]
  rw [Oper.upon_value]
  go_wp2
  rw [Lib.run_from_unsafe w ⟨b, 0, none⟩ (show Tryd.prog.underlying 92 = some (.unsafePointer) by kernel_rfl) (show Tryd.prog.underlying 60 = some (.pointer 62) by kernel_rfl) (show Tryd.prog.info? 62 = some Tryd.t62 by kernel_rfl) hsh (by kernel_rfl)]
  simp only [Result.andThen]
  rw [Oper.upon_value]
  go_wp2
  go_end0
  exact ⟨rfl, rfl⟩
set_option maxHeartbeats 2000000 in
set_option maxRecDepth 100000 in
theorem bstr_row_27 : ∀ (b g cap : Nat) (cur : Array Value) (s : List UInt8) (w : World), w.cell? ⟨b, 1, none⟩ = some (.slice (some ⟨g, 0, none⟩) s.length cap) → s ≠ [] → s.length ≤ cap → cap ≤ maxLen → cur.size = cap * 1 →
    w.heap[g]? = some (.cells cur 5 (0, 0)) → (∀ j x, s[j]? = some x → w.cell? ((⟨g, 0, none⟩ : Addr).add j) = some (.int .u8 x.toNat)) →
    Calls Tryd.prog 27 #[.pointer (some ⟨b, 0, none⟩)] w fun e w' => e = .returned (.string ⟨s.toArray⟩) ∧ w' = w.drew.freeze ⟨g, 0, none⟩ s.length := by
  intro b g cap cur s w c0 h0 hnc hcm hcs hg hcell
  have hl0 : s.length ≠ 0 := by simpa using h0
  have c1 : w.drew.cell? ⟨b, 1, none⟩ = some (.slice (some ⟨g, 0, none⟩) s.length cap) := c0
  have hSD : (Builtin.unsafeSliceData_ #[22] 83 #[.slice (some ⟨g, 0, none⟩) s.length cap]).run Tryd.prog w.drew = .ok (.pointer (some ⟨g, 0, none⟩)) w.drew :=
    Lib.run_unsafeSliceData_row _ _ _ _ _ _ (by omega)
  have hUS : (Builtin.unsafeString_ #[83, 3] 9 #[.pointer (some ⟨g, 0, none⟩), .int .i64 s.length]).run Tryd.prog w.drew = .ok (.string ⟨s.toArray⟩) (w.drew.freeze ⟨g, 0, none⟩ s.length) := by
    refine Lib.run_unsafeString_row w.drew 83 3 9 5 (show Tryd.prog.underlying 83 = some (.pointer 5) by kernel_rfl) (show Tryd.prog.cellsOf 5 = 1 by kernel_rfl) g cur.size (by have hg' : w.drew.heap[g]? = some (.cells cur 5 (0, 0)) := hg; simp [World.shape?, hg']) s h0 (by omega) (by unfold maxLen at hcm; omega) ?_
    intro j x hx
    exact hcell j x hx
  go_enter Tryd.func27, Tryd.ntmps27
  go_wp2
  go_region
  all_goals (go_wp2; go_ret; exact ⟨rfl, rfl⟩)
set_option maxHeartbeats 2000000 in
set_option maxRecDepth 100000 in
theorem bstr_nil_27 : ∀ (b : Nat) (w : World), w.cell? ⟨b, 1, none⟩ = some (.slice none 0 0) → Calls Tryd.prog 27 #[.pointer (some ⟨b, 0, none⟩)] w fun e w' => e = .returned (.string ⟨#[]⟩) ∧ w' = w.drew := by
  intro b w c0
  have hUS : ∀ (W : World) (q : Option Addr), (Builtin.unsafeString_ #[83, 3] 9 #[.pointer q, .int .i64 0]).run Tryd.prog W = .ok (.string .empty) W := fun W q => Lib.run_unsafeString_none W _ _ _ q
  have c1 : w.drew.cell? ⟨b, 1, none⟩ = some (.slice none 0 0) := c0
  have hSD : (Builtin.unsafeSliceData_ #[22] 83 #[.slice none 0 0]).run Tryd.prog w.drew = .ok (.pointer none) w.drew := rfl
  go_enter Tryd.func27, Tryd.ntmps27
  go_wp2
  go_region
  all_goals (go_wp2; go_ret; exact ⟨rfl, rfl⟩)
set_option maxHeartbeats 2000000 in
set_option maxRecDepth 100000 in
theorem bstr_noroom_27 : ∀ (b g : Nat) (cur : Array Value) (w : World), w.cell? ⟨b, 1, none⟩ = some (.slice (some ⟨g, 0, none⟩) 0 0) → b < w.heap.size → w.heap[g]? = some (.cells cur 5 (0, 0)) →
    Calls Tryd.prog 27 #[.pointer (some ⟨b, 0, none⟩)] w fun e' w' => e' = .returned (.string ⟨#[]⟩) ∧ w' = w.drew.alloc (.view ⟨g, 0, none⟩ 5) := by
  intro b g cur w c0 hlt hg
  have hUS : ∀ (W : World) (q : Option Addr), (Builtin.unsafeString_ #[83, 3] 9 #[.pointer q, .int .i64 0]).run Tryd.prog W = .ok (.string .empty) W := fun W q => Lib.run_unsafeString_none W _ _ _ q
  have c1 : w.drew.cell? ⟨b, 1, none⟩ = some (.slice (some ⟨g, 0, none⟩) 0 0) := c0
  have hSD : (Builtin.unsafeSliceData_ #[22] 83 #[.slice (some ⟨g, 0, none⟩) 0 0]).run Tryd.prog w.drew = .ok (.pointer (some ⟨w.drew.heap.size, 0, none⟩)) (w.drew.alloc (.view ⟨g, 0, none⟩ 5)) :=
    Lib.run_unsafeSliceData_zero w.drew _ _ 5 (show Tryd.prog.underlying 83 = some (.pointer 5) by kernel_rfl) ⟨g, 0, none⟩ 0 (5, cur.size) (by have hg' : w.drew.heap[g]? = some (.cells cur 5 (0, 0)) := hg; simp [World.shape?, hg'])
  have c2 : (w.drew.alloc (.view ⟨g, 0, none⟩ 5)).cell? ⟨b, 1, none⟩ = some (.slice (some ⟨g, 0, none⟩) 0 0) :=
    (World.cell?_of_block (a := ⟨b, 1, none⟩) (RowKit.Below.heap_alloc w.drew _ b hlt)).trans c1
  have c3 : (w.alloc (.view ⟨g, 0, none⟩ 5)).drew.cell? ⟨b, 1, none⟩ = some (.slice (some ⟨g, 0, none⟩) 0 0) := c2
  go_enter Tryd.func27, Tryd.ntmps27
  go_wp2
  go_region
  all_goals (go_wp2; go_ret; exact ⟨rfl, rfl⟩)
set_option maxHeartbeats 2000000 in
set_option maxRecDepth 100000 in
theorem bstr_room_27 : ∀ (b g cap : Nat) (w : World), cap ≠ 0 → w.cell? ⟨b, 1, none⟩ = some (.slice (some ⟨g, 0, none⟩) 0 cap) → Calls Tryd.prog 27 #[.pointer (some ⟨b, 0, none⟩)] w fun e w' => e = .returned (.string ⟨#[]⟩) ∧ w' = w.drew := by
  intro b g cap w hc0 c0
  have hUS : ∀ (W : World) (q : Option Addr), (Builtin.unsafeString_ #[83, 3] 9 #[.pointer q, .int .i64 0]).run Tryd.prog W = .ok (.string .empty) W := fun W q => Lib.run_unsafeString_none W _ _ _ q
  have c1 : w.drew.cell? ⟨b, 1, none⟩ = some (.slice (some ⟨g, 0, none⟩) 0 cap) := c0
  have hSD : (Builtin.unsafeSliceData_ #[22] 83 #[.slice (some ⟨g, 0, none⟩) 0 cap]).run Tryd.prog w.drew = .ok (.pointer (some ⟨g, 0, none⟩)) w.drew :=
    Lib.run_unsafeSliceData_row _ _ _ _ _ _ hc0
  clear hc0
  go_enter Tryd.func27, Tryd.ntmps27
  go_wp2
  go_region
  all_goals (go_wp2; go_ret; exact ⟨rfl, rfl⟩)
def aciValueText : AC := (.seq (.ops [.box 1 64 0, .asg 2 (.c (.d (.s (bs []))))]) (.seq (.seq (.ops [.ld 3 3 true 1, .call (some 4) 39 [3], .not 5 4]) (.cond 5 (.seq (.ops [.asg 2 (.c (.d (.s (bs [63]))))]) .ret) .skip)) (.seq (.seq (.ops [.fa 6 0 1, .ld 7 1 false 6]) (.block 0 (.seq (.ops [.bin 9 .eql 7 (kI 1), .asg 8 9]) (.cond 8 (.seq (.ops [.fa 10 1 1, .ld 11 1 false 10, .call (some 12) 40 [11], .asg 2 12]) .ret) (.seq (.ops [.bin 14 .eql 7 (kI 2), .asg 13 14]) (.cond 13 (.seq (.ops [.fa 15 2 1, .ld 16 1 false 15, .call (some 17) 41 [16], .asg 2 17]) .ret) (.seq (.ops [.bin 19 .eql 7 (kI 3), .asg 18 19]) (.cond 18 (.seq (.seq (.ops [.fa 20 1 1, .ld 21 1 false 20, .bin 22 .eql 21 (kI 1)]) (.cond 22 (.seq (.ops [.asg 2 (.c (.d (.s (bs [84, 82, 85, 69]))))]) .ret) .skip)) (.seq (.ops [.asg 2 (.c (.d (.s (bs [70, 65, 76, 83, 69]))))]) .ret)) .skip)))))))) (.seq (.ops [.asg 2 (.c (.d (.s (bs [78, 85, 76, 76]))))]) .ret))))
theorem triValueText : trFn Tryd.prog 26 = some (aciValueText, [.mv 0 2], 23) := by kernel_rfl
def qiValueText (r : (List UInt8)) : Exit → St → Prop := retQ [.mv 0 2] fun x _ => x = (fun y => (vS y)) r
def aciValueOk : AC := (.seq (.ops [.box 1 64 0, .asg 2 (kB false)]) (.seq (.seq (.ops [.fa 3 0 1, .ld 4 1 false 3]) (.block 0 (.seq (.ops [.bin 6 .eql 4 (kI 0), .asg 5 6]) (.cond 5 (.seq (.ops [.fa 7 1 1, .ld 8 1 false 7, .bin 9 .eql 8 (kI 0), .mv 10 9, .g 10 true (.fa 11 2 1), .g 10 true (.ld 12 1 false 11), .g 10 true (.bin 13 .eql 12 (.c (.d (.s (bs []))))), .pick 14 10 13 (kB false), .asg 2 14]) .ret) (.seq (.ops [.bin 16 .eql 4 (kI 1), .asg 15 16]) (.cond 15 (.seq (.ops [.fa 17 2 1, .ld 18 1 false 17, .bin 19 .eql 18 (.c (.d (.s (bs [])))), .asg 2 19]) .ret) (.seq (.ops [.bin 21 .eql 4 (kI 2), .asg 20 21]) (.cond 20 (.seq (.ops [.fa 22 1 1, .ld 23 1 false 22, .bin 24 .eql 23 (kI 0), .mv 25 24, .g 25 true (.fa 26 2 1), .g 25 true (.ld 27 1 false 26), .g 25 true (.lns 28 27), .g 25 true (.bin 29 .leq 28 (kI 200)), .pick 30 25 29 (kB false), .asg 2 30]) .ret) (.seq (.ops [.bin 32 .eql 4 (kI 3), .asg 31 32]) (.cond 31 (.seq (.ops [.fa 33 1 1, .ld 34 1 false 33, .bin 35 .eql 34 (kI 0), .mv 36 35, .g 36 false (.fa 37 1 1), .g 36 false (.ld 38 1 false 37), .g 36 false (.bin 39 .eql 38 (kI 1)), .pick 40 36 (kB true) 39, .mv 41 40, .g 41 true (.fa 42 2 1), .g 41 true (.ld 43 1 false 42), .g 41 true (.bin 44 .eql 43 (.c (.d (.s (bs []))))), .pick 45 41 44 (kB false), .asg 2 45]) .ret) .skip)))))))))) (.seq (.ops [.asg 2 (kB false)]) .ret)))
theorem triValueOk : trFn Tryd.prog 39 = some (aciValueOk, [.mv 0 2], 46) := by kernel_rfl
def qiValueOk (r : Bool) : Exit → St → Prop := retQ [.mv 0 2] fun x _ => x = (fun y => (vB y)) r
def aciQuoteText : AC := (.seq (.ops [.asg 2 (.c (.d (.s (bs []))))]) (.seq (.ops [.mv 3 0, .call (some 4) 55 [3, (.c (.d (.s (bs [39]))))], .asg 2 4]) .ret))
theorem triQuoteText : trFn Tryd.prog 41 = some (aciQuoteText, [.mv 0 2], 5) := by kernel_rfl
def qiQuoteText (r : (List UInt8)) : Exit → St → Prop := retQ [.mv 0 2] fun x _ => x = (fun y => (vS y)) r
def aciQuoted : AC := (.seq (.ops [.asg 4 (.c (.d (.s (bs []))))]) (.seq (.ops [.mv 5 1, .mv 6 0, .mv 7 1, .mv 8 1, .mv 9 1, .bin 10 .add 8 9, .call (some 11) 59 [6, 7, 10], .bin 12 .add 5 11, .mv 13 1, .bin 14 .add 12 13, .asg 4 14]) .ret))
theorem triQuoted : trFn Tryd.prog 55 = some (aciQuoted, [.mv 0 4], 15) := by kernel_rfl
def qiQuoted (r : (List UInt8)) : Exit → St → Prop := retQ [.mv 0 4] fun x _ => x = (fun y => (vS y)) r

def aciDigits : AC := (.seq (.ops [.asg 2 (.c (.d (.s (bs []))))]) (.seq (.ops [.mv 3 0, .call (some 4) 54 [3], .asg 2 4]) .ret))
theorem triDigits : trFn Tryd.prog 40 = some (aciDigits, [.mv 0 2], 5) := by kernel_rfl
def qiDigits (r : (List UInt8)) : Exit → St → Prop := retQ [.mv 0 2] fun x _ => x = (fun y => (vS y)) r

def acsCatalogOk_L1 : AC := (.loop (.seq (.seq (.ops [.mv 41 5, .fa 42 1 4, .ld 43 1 false 42, .len 44 43, .bin 45 .lss 41 44]) (.cond 45 .skip (.exit 2))) (.seq (.block 3 (.seq (.dops [[], [0], [], [1, 2], [3], [4], [5], [6], [7, 6], [8], [8], [10, 8], [8], [11, 12, 8], [13, 8], [14, 8], [9, 15, 8, 8], [8], [16, 17, 8], [8, 18], [19, 16], [20], [21, 20], [20], [22, 23, 20], [24, 20], [25, 20], [26, 20, 20], [27, 20], [20, 28]] [.fa 48 1 4, .ld 49 1 false 48, .mv 50 5, .ia 51 2 49 50, .fa 52 0 51, .ld 53 1 false 52, .call (some 54) 18 [53], .not 55 54, .mv 56 55, .g 56 false (.ld 57 2 true 4), .g 56 false (.fa 58 1 4), .g 56 false (.ld 59 1 false 58), .g 56 false (.mv 60 5), .g 56 false (.ia 61 2 59 60), .g 56 false (.fa 62 0 61), .g 56 false (.ld 63 1 false 62), .g 56 false (.call (some 64) 21 [57, 63]), .g 56 false (.mv 65 5), .g 56 false (.bin 66 .neq 64 65), .pick 67 56 (kB true) 66, .mv 68 67, .g 68 false (.fa 69 1 4), .g 68 false (.ld 70 1 false 69), .g 68 false (.mv 71 5), .g 68 false (.ia 72 2 70 71), .g 68 false (.fa 73 1 72), .g 68 false (.ld 74 1 false 73), .g 68 false (.call (some 75) 20 [74, (kI 1), (kI 3)]), .g 68 false (.not 76 75), .pick 77 68 (kB true) 76]) (.cond 77 (.seq (.ops [.asg 2 (kB false)]) .ret) .skip))) (.ops [.mv 46 5, .bin 47 .add 46 (kI 1), .asg 5 47]))))
def ccsCatalogOk_1 : AC := (.ops [.mv 15 3, .bin 16 .add 15 (kI 1), .asg 3 16])
def acsCatalogOk_L0 : AC := (.loop (.seq (.seq (.ops [.mv 10 3, .fa 11 0 1, .ld 12 1 false 11, .len 13 12, .bin 14 .lss 10 13]) (.cond 14 .skip (.exit 0))) (.seq (.block 1 (.seq (.ops [.fa 17 0 1, .ld 18 1 false 17, .mv 19 3, .ia 20 2 18 19, .ld 21 2 true 20, .alc 4 [(.d (.s (bs []))), (.nil 2)], .st 2 4 21]) (.seq (.seq (.ops [.fa 22 0 4, .ld 23 1 false 22, .call (some 24) 18 [23], .not 25 24, .mv 26 25, .g 26 false (.ld 27 1 true 1), .g 26 false (.fa 28 0 4), .g 26 false (.ld 29 1 false 28), .g 26 false (.call (some 30) 19 [27, 29]), .g 26 false (.mv 31 3), .g 26 false (.bin 32 .neq 30 31), .pick 33 26 (kB true) 32, .mv 34 33, .g 34 false (.fa 35 1 4), .g 34 false (.ld 36 1 false 35), .g 34 false (.len 37 36), .g 34 false (.call (some 38) 20 [37, (kI 1), (kI 4)]), .g 34 false (.not 39 38), .pick 40 34 (kB true) 39]) (.cond 40 (.seq (.ops [.asg 2 (kB false)]) .ret) .skip)) (.seq (.ops [.asg 5 (kI 0)]) (.block 2 acsCatalogOk_L1))))) ccsCatalogOk_1)))
def ccsCatalogOk_0 : AC := (.seq (.ops [.asg 2 (kB true)]) .ret)
def acsCatalogOk : AC := (.seq (.ops [.box 1 26 0, .asg 2 (kB false)]) (.seq (.seq (.ops [.fa 6 0 1, .ld 7 1 false 6, .len 8 7, .bin 9 .gtr 8 (kI 4)]) (.cond 9 (.seq (.ops [.asg 2 (kB false)]) .ret) .skip)) (.seq (.seq (.ops [.asg 3 (kI 0)]) (.block 0 acsCatalogOk_L0)) ccsCatalogOk_0)))
theorem trsCatalogOk : trFn Tryd.prog 8 = some (acsCatalogOk, [.mv 0 2], 78) := by kernel_rfl
def qsCatalogOk (r : Bool) : Exit → St → Prop := retQ [.mv 0 2] fun x _ => x = (fun y => (vB y)) r
def qsCatalogOk_0 (r : Bool) : Exit → St → Prop := (thenK (wkK (avc Tryd.prog ccsCatalogOk_0 (qsCatalogOk r))) (qsCatalogOk r))
def qsCatalogOk_1 (r : Bool) : Exit → St → Prop := (blockK 0 (qsCatalogOk_0 r))
def qsCatalogOk_2 (r : Bool) : Exit → St → Prop := (thenK (avc Tryd.prog acsCatalogOk_L0 (qsCatalogOk_1 r)) (qsCatalogOk_1 r))
def qsCatalogOk_3 (r : Bool) : Exit → St → Prop := (thenK (wkK (avc Tryd.prog ccsCatalogOk_1 (qsCatalogOk_2 r))) (qsCatalogOk_2 r))
def qsCatalogOk_4 (r : Bool) : Exit → St → Prop := (blockK 1 (qsCatalogOk_3 r))
def qsCatalogOk_5 (r : Bool) : Exit → St → Prop := (blockK 2 (qsCatalogOk_4 r))
def stsCatalogOk_L0 (p0 : GCatalog) (x3 : Int) : St := ⟨[(1, (.ptr 1 0)), (3, (vI x3))], [(1, bGCatalog p0)]⟩
abbrev mosCatalogOk_L0 (p0 : GCatalog) (x3 : Int) (r : Bool) : Prop := avc Tryd.prog acsCatalogOk_L0 (qsCatalogOk_1 r) (stsCatalogOk_L0 p0 x3)
def stsCatalogOk_L1 (x3 : Int) (p0 : GCatalog) (y1 : GTable) (x5 : Int) : St := ⟨[(1, (.ptr 1 0)), (3, (vI x3)), (4, (.ptr 4 0)), (5, (vI x5))], [(1, bGCatalog p0), (4, bGTable y1)]⟩
abbrev mosCatalogOk_L1 (x3 : Int) (p0 : GCatalog) (y1 : GTable) (x5 : Int) (r : Bool) : Prop := avc Tryd.prog acsCatalogOk_L1 (qsCatalogOk_5 r) (stsCatalogOk_L1 x3 p0 y1 x5)
def acsTableAt_L0 : AC := (.loop (.seq (.seq (.ops [.mv 6 5, .fa 7 0 2, .ld 8 1 false 7, .len 9 8, .bin 10 .lss 6 9]) (.cond 10 .skip (.exit 0))) (.seq (.block 1 (.seq (.ops [.fa 13 0 2, .ld 14 1 false 13, .mv 15 5, .ia 16 2 14 15, .fa 17 0 16, .ld 18 1 false 17, .mv 19 1, .bin 20 .eql 18 19]) (.cond 20 (.seq (.ops [.mv 21 5, .asg 4 21]) .ret) .skip))) (.ops [.mv 11 5, .bin 12 .add 11 (kI 1), .asg 5 12]))))
def ccsTableAt_0 : AC := (.seq (.ops [.asg 4 (kI (-1))]) .ret)
def acsTableAt : AC := (.seq (.ops [.box 2 26 0, .asg 4 (kI 0)]) (.seq (.seq (.ops [.asg 5 (kI 0)]) (.block 0 acsTableAt_L0)) ccsTableAt_0))
theorem trsTableAt : trFn Tryd.prog 19 = some (acsTableAt, [.mv 0 4], 22) := by kernel_rfl
def qsTableAt (r : Int) : Exit → St → Prop := retQ [.mv 0 4] fun x _ => x = (fun y => (vI y)) r
def qsTableAt_0 (r : Int) : Exit → St → Prop := (thenK (wkK (avc Tryd.prog ccsTableAt_0 (qsTableAt r))) (qsTableAt r))
def qsTableAt_1 (r : Int) : Exit → St → Prop := (blockK 0 (qsTableAt_0 r))
def stsTableAt_L0 (p1 : (List UInt8)) (p0 : GCatalog) (x5 : Int) : St := ⟨[(1, (vS p1)), (2, (.ptr 2 0)), (5, (vI x5))], [(2, bGCatalog p0)]⟩
abbrev mosTableAt_L0 (p1 : (List UInt8)) (p0 : GCatalog) (x5 : Int) (r : Int) : Prop := avc Tryd.prog acsTableAt_L0 (qsTableAt_1 r) (stsTableAt_L0 p1 p0 x5)
def acsColAt_L0 : AC := (.loop (.seq (.seq (.ops [.mv 6 5, .fa 7 1 2, .ld 8 1 false 7, .len 9 8, .bin 10 .lss 6 9]) (.cond 10 .skip (.exit 0))) (.seq (.block 1 (.seq (.ops [.fa 13 1 2, .ld 14 1 false 13, .mv 15 5, .ia 16 2 14 15, .fa 17 0 16, .ld 18 1 false 17, .mv 19 1, .bin 20 .eql 18 19]) (.cond 20 (.seq (.ops [.mv 21 5, .asg 4 21]) .ret) .skip))) (.ops [.mv 11 5, .bin 12 .add 11 (kI 1), .asg 5 12]))))
def ccsColAt_0 : AC := (.seq (.ops [.asg 4 (kI (-1))]) .ret)
def acsColAt : AC := (.seq (.ops [.box 2 46 0, .asg 4 (kI 0)]) (.seq (.seq (.ops [.asg 5 (kI 0)]) (.block 0 acsColAt_L0)) ccsColAt_0))
theorem trsColAt : trFn Tryd.prog 21 = some (acsColAt, [.mv 0 4], 22) := by kernel_rfl
def qsColAt (r : Int) : Exit → St → Prop := retQ [.mv 0 4] fun x _ => x = (fun y => (vI y)) r
def qsColAt_0 (r : Int) : Exit → St → Prop := (thenK (wkK (avc Tryd.prog ccsColAt_0 (qsColAt r))) (qsColAt r))
def qsColAt_1 (r : Int) : Exit → St → Prop := (blockK 0 (qsColAt_0 r))
def stsColAt_L0 (p1 : (List UInt8)) (p0 : GTable) (x5 : Int) : St := ⟨[(1, (vS p1)), (2, (.ptr 2 0)), (5, (vI x5))], [(2, bGTable p0)]⟩
abbrev mosColAt_L0 (p1 : (List UInt8)) (p0 : GTable) (x5 : Int) (r : Int) : Prop := avc Tryd.prog acsColAt_L0 (qsColAt_1 r) (stsColAt_L0 p1 p0 x5)
def acsNameOk : AC := (.seq (.ops [.asg 2 (kB false)]) (.seq (.ops [.mv 3 0, .lns 4 3, .call (some 5) 20 [4, (kI 1), (kI 20)], .asg 2 5]) .ret))
theorem trsNameOk : trFn Tryd.prog 18 = some (acsNameOk, [.mv 0 2], 6) := by kernel_rfl
def qsNameOk (r : Bool) : Exit → St → Prop := retQ [.mv 0 2] fun x _ => x = (fun y => (vB y)) r
def acsL1In : AC := (.seq (.ops [.asg 6 (kB false)]) (.seq (.ops [.mv 7 0, .mv 8 1, .bin 9 .geq 7 8, .mv 10 9, .g 10 true (.mv 11 0), .g 10 true (.mv 12 2), .g 10 true (.bin 13 .leq 11 12), .pick 14 10 13 (kB false), .asg 6 14]) .ret))
theorem trsL1In : trFn Tryd.prog 20 = some (acsL1In, [.mv 0 6], 15) := by kernel_rfl
def qsL1In (r : Bool) : Exit → St → Prop := retQ [.mv 0 6] fun x _ => x = (fun y => (vB y)) r
def aciDbOk_L0 : AC := (.loop (.seq (.ops [.bin 24 .lss 23 22]) (.seq (.cond 24 .skip (.exit 0)) (.seq (.block 1 (.seq (.ops [.mv 25 23, .ia 26 1 21 23, .ld 27 1 true 26, .alc 6 [(.nil 1)], .asg 5 25, .st 1 6 27]) (.seq (.ops [.fa 28 0 2, .ld 29 1 false 28, .mv 30 5, .ia 31 2 29 30, .ld 32 2 true 31, .call (some 33) 14 [32], .alc 7 [(.nil 1)], .st 1 7 33]) (.seq (.ops [.fa 34 0 6, .ld 35 1 false 34, .len 36 35, .bin 37 .gtr 36 (kI 6), .mv 38 37, .g 38 false (.fa 39 0 6), .g 38 false (.ld 40 1 false 39), .g 38 false (.mkf 41 16 [7]), .g 38 false (.call (some 42) 15 [40, 41]), .pick 43 38 (kB true) 42]) (.cond 43 (.seq (.ops [.asg 4 (kB false)]) .ret) .skip))))) (.ops [.bin 44 .add 23 (kI 1), .mv 23 44])))))
def cciDbOk_0 : AC := (.seq (.ops [.asg 4 (kB true)]) .ret)
def aciDbOk : AC := (.seq (.ops [.box 2 26 0, .box 3 30 1, .asg 4 (kB false)]) (.seq (.seq (.ops [.ld 8 1 true 2, .call (some 9) 13 [8], .not 10 9, .mv 11 10, .g 11 false (.fa 12 0 3), .g 11 false (.ld 13 1 false 12), .g 11 false (.len 14 13), .g 11 false (.fa 15 0 2), .g 11 false (.ld 16 1 false 15), .g 11 false (.len 17 16), .g 11 false (.bin 18 .neq 14 17), .pick 19 11 (kB true) 18]) (.cond 19 (.seq (.ops [.asg 4 (kB false)]) .ret) .skip)) (.seq (.seq (.ops [.fa 20 0 3, .ld 21 1 false 20, .len 22 21, .mv 23 (kI 0)]) (.block 0 aciDbOk_L0)) cciDbOk_0)))
theorem triDbOk : trFn Tryd.prog 7 = some (aciDbOk, [.mv 0 4], 45) := by kernel_rfl
def qiDbOk (r : Bool) : Exit → St → Prop := retQ [.mv 0 4] fun x _ => x = (fun y => (vB y)) r
def qiDbOk_0 (r : Bool) : Exit → St → Prop := (thenK (wkK (avc Tryd.prog cciDbOk_0 (qiDbOk r))) (qiDbOk r))
def qiDbOk_1 (r : Bool) : Exit → St → Prop := (blockK 0 (qiDbOk_0 r))
def stiDbOk_L0 (p1 : GDb) (p0 : GCatalog) (x23 : Int) : St := ⟨[(2, (.ptr 2 0)), (21, (.d (.sl 1 (p1.tables.map cGData)))), (22, (vI (p1.tables.length : Int))), (23, (vI x23))], [(2, bGCatalog p0)]⟩
abbrev moiDbOk_L0 (p1 : GDb) (p0 : GCatalog) (x23 : Int) (r : Bool) : Prop := avc Tryd.prog aciDbOk_L0 (qiDbOk_1 r) (stiDbOk_L0 p1 p0 x23)
def aciTypesOf_L0 : AC := (.loop (.seq (.ops [.bin 11 .lss 10 9]) (.seq (.cond 11 .skip (.exit 0)) (.seq (.block 1 (.seq (.ops [.ia 12 2 8 10, .ld 13 2 true 12, .alc 5 [(.d (.s (bs []))), (.d (.i .i64 0))], .st 2 5 13]) (.ops [.mv 14 3, .fa 15 1 5, .ld 16 1 false 15, .bsl 17 3 1 [16], .app 18 3 1 8 14 17, .asg 3 18]))) (.ops [.bin 19 .add 10 (kI 1), .mv 10 19])))))
def cciTypesOf_0 : AC := (.seq (.ops [.mv 20 3, .asg 2 20]) .ret)
def aciTypesOf : AC := (.seq (.ops [.box 1 46 0, .asg 2 (.c (.nil 1))]) (.seq (.ops [.bsl 6 3 1 [], .asg 3 6]) (.seq (.seq (.ops [.fa 7 1 1, .ld 8 1 false 7, .len 9 8, .mv 10 (kI 0)]) (.block 0 aciTypesOf_L0)) cciTypesOf_0)))
theorem triTypesOf : trFn Tryd.prog 14 = some (aciTypesOf, [.mv 0 2], 21) := by kernel_rfl
def qiTypesOf (r : (List Int)) : Exit → St → Prop := retQ [.mv 0 2] fun x b => x = (fun (y : (List Int)) => (.osl 2000000 3 1 (y.map cI))) r ∧ bxHas ((fun (y : (List Int)) => []) r) b
def qiTypesOf_0 (r : (List Int)) : Exit → St → Prop := (thenK (wkK (avc Tryd.prog cciTypesOf_0 (qiTypesOf r))) (qiTypesOf r))
def qiTypesOf_1 (r : (List Int)) : Exit → St → Prop := (blockK 0 (qiTypesOf_0 r))
def stiTypesOf_L0 (p0 : GTable) (x3 : (List Int)) (x10 : Int) : St := ⟨[(3, (.osl 3 3 1 (x3.map cI))), (8, (.d (.sl 2 (p0.cols.map cGCol)))), (9, (vI (p0.cols.length : Int))), (10, (vI x10))], []⟩
abbrev moiTypesOf_L0 (p0 : GTable) (x3 : (List Int)) (x10 : Int) (r : (List Int)) : Prop := avc Tryd.prog aciTypesOf_L0 (qiTypesOf_1 r) (stiTypesOf_L0 p0 x3 x10)
def acgSlices_ContainsFunc_SSimpl_Value_Simpl_Value_iDbOk_1 : AC := (.seq (.ops [.asg 4 (kB false)]) (.seq (.ops [.mv 5 0, .mv 6 1, .call (some 7) 34 [5, 6], .bin 8 .geq 7 (kI 0), .asg 4 8]) .ret))
theorem trgSlices_ContainsFunc_SSimpl_Value_Simpl_Value_iDbOk_1 : trFn Tryd.prog 15 = some (acgSlices_ContainsFunc_SSimpl_Value_Simpl_Value_iDbOk_1, [.mv 0 4], 9) := by kernel_rfl
def qgSlices_ContainsFunc_SSimpl_Value_Simpl_Value_iDbOk_1 (c0_0 : (List Int)) (r : Bool) : Exit → St → Prop := retQ [.mv 0 4] fun x b => x = (fun (y : Bool) => (vB y)) r ∧ bxHas ((fun (y : Bool) => [(1000000, [(.d (.sl 1 (c0_0.map cI)))])]) r) b
def acgSlices_IndexFunc_SSimpl_Value_Simpl_Value_iDbOk_1_L0 : AC := (.loop (.seq (.ops [.bin 9 .lss 8 7]) (.seq (.cond 9 .skip (.exit 0)) (.seq (.block 1 (.seq (.ops [.mv 10 8, .asg 5 10]) (.seq (.ops [.mv 11 1, .mv 12 0, .mv 13 5, .ia 14 1 12 13, .ld 15 1 false 14, .callv (some 16) 11 [15]]) (.cond 16 (.seq (.ops [.mv 17 5, .asg 4 17]) .ret) .skip)))) (.ops [.bin 18 .add 8 (kI 1), .mv 8 18])))))
def ccgSlices_IndexFunc_SSimpl_Value_Simpl_Value_iDbOk_1_0 : AC := (.seq (.ops [.asg 4 (kI (-1))]) .ret)
def acgSlices_IndexFunc_SSimpl_Value_Simpl_Value_iDbOk_1 : AC := (.seq (.ops [.asg 4 (kI 0)]) (.seq (.seq (.ops [.mv 6 0, .len 7 6, .mv 8 (kI 0)]) (.block 0 acgSlices_IndexFunc_SSimpl_Value_Simpl_Value_iDbOk_1_L0)) ccgSlices_IndexFunc_SSimpl_Value_Simpl_Value_iDbOk_1_0))
theorem trgSlices_IndexFunc_SSimpl_Value_Simpl_Value_iDbOk_1 : trFn Tryd.prog 34 = some (acgSlices_IndexFunc_SSimpl_Value_Simpl_Value_iDbOk_1, [.mv 0 4], 19) := by kernel_rfl
def qgSlices_IndexFunc_SSimpl_Value_Simpl_Value_iDbOk_1 (c0_0 : (List Int)) (r : Int) : Exit → St → Prop := retQ [.mv 0 4] fun x b => x = (fun (y : Int) => (vI y)) r ∧ bxHas ((fun (y : Int) => [(1000000, [(.d (.sl 1 (c0_0.map cI)))])]) r) b
def qgSlices_IndexFunc_SSimpl_Value_Simpl_Value_iDbOk_1_0 (c0_0 : (List Int)) (r : Int) : Exit → St → Prop := (thenK (wkK (avc Tryd.prog ccgSlices_IndexFunc_SSimpl_Value_Simpl_Value_iDbOk_1_0 (qgSlices_IndexFunc_SSimpl_Value_Simpl_Value_iDbOk_1 c0_0 r))) (qgSlices_IndexFunc_SSimpl_Value_Simpl_Value_iDbOk_1 c0_0 r))
def qgSlices_IndexFunc_SSimpl_Value_Simpl_Value_iDbOk_1_1 (c0_0 : (List Int)) (r : Int) : Exit → St → Prop := (blockK 0 (qgSlices_IndexFunc_SSimpl_Value_Simpl_Value_iDbOk_1_0 c0_0 r))
def stgSlices_IndexFunc_SSimpl_Value_Simpl_Value_iDbOk_1_L0 (p0 : (List (List GValue))) (c0_0 : (List Int)) (x8 : Int) : St := ⟨[(0, (.d (.sl 1 (p0.map (cSl 3 cGValue))))), (1, (.fn 16 [(.ptr 1000000 0)])), (7, (vI (p0.length : Int))), (8, (vI x8))], [(1000000, [(.d (.sl 1 (c0_0.map cI)))])]⟩
abbrev mogSlices_IndexFunc_SSimpl_Value_Simpl_Value_iDbOk_1_L0 (p0 : (List (List GValue))) (c0_0 : (List Int)) (x8 : Int) (r : Int) : Prop := avc Tryd.prog acgSlices_IndexFunc_SSimpl_Value_Simpl_Value_iDbOk_1_L0 (qgSlices_IndexFunc_SSimpl_Value_Simpl_Value_iDbOk_1_1 c0_0 r) (stgSlices_IndexFunc_SSimpl_Value_Simpl_Value_iDbOk_1_L0 p0 c0_0 x8)
def aciDbOk_1_x : AC := (.seq (.ops [.asg 3 (kB false)]) (.seq (.ops [.mv 4 0, .ld 5 1 false 1, .call (some 6) 17 [4, 5], .not 7 6, .asg 3 7]) .ret))
theorem triDbOk_1_x : trFn Tryd.prog 16 = some (aciDbOk_1_x, [.mv 0 3], 8) := by kernel_rfl
def qiDbOk_1_x (c0_0 : (List Int)) (r : Bool) : Exit → St → Prop := retQ [.mv 0 3] fun x b => x = (fun (y : Bool) => (vB y)) r ∧ bxHas ((fun (y : Bool) => [(1000000, [(.d (.sl 1 (c0_0.map cI)))])]) r) b
def aciRowFits_L0 : AC := (.loop (.seq (.ops [.bin 15 .lss 14 13]) (.seq (.cond 15 .skip (.exit 0)) (.seq (.block 1 (.seq (.ops [.mv 16 14, .ia 17 3 12 14, .ld 18 3 true 17, .alc 6 [(.d (.i .i64 0)), (.d (.i .i64 0)), (.d (.s (bs [])))], .asg 5 16, .st 3 6 18]) (.seq (.dops [[], [], [], [1, 2], [3], [0, 4], [5]] [.ld 19 3 true 6, .mv 20 1, .mv 21 5, .ia 22 1 20 21, .ld 23 1 false 22, .call (some 24) 35 [19, 23], .not 25 24]) (.cond 25 (.seq (.ops [.asg 4 (kB false)]) .ret) .skip)))) (.ops [.bin 26 .add 14 (kI 1), .mv 14 26])))))
def cciRowFits_0 : AC := (.seq (.ops [.asg 4 (kB true)]) .ret)
def aciRowFits : AC := (.seq (.ops [.asg 4 (kB false)]) (.seq (.seq (.ops [.mv 7 0, .len 8 7, .mv 9 1, .len 10 9, .bin 11 .neq 8 10]) (.cond 11 (.seq (.ops [.asg 4 (kB false)]) .ret) .skip)) (.seq (.seq (.ops [.mv 12 0, .len 13 12, .mv 14 (kI 0)]) (.block 0 aciRowFits_L0)) cciRowFits_0)))
theorem triRowFits : trFn Tryd.prog 17 = some (aciRowFits, [.mv 0 4], 27) := by kernel_rfl
def qiRowFits (r : Bool) : Exit → St → Prop := retQ [.mv 0 4] fun x _ => x = (fun y => (vB y)) r
def qiRowFits_0 (r : Bool) : Exit → St → Prop := (thenK (wkK (avc Tryd.prog cciRowFits_0 (qiRowFits r))) (qiRowFits r))
def qiRowFits_1 (r : Bool) : Exit → St → Prop := (blockK 0 (qiRowFits_0 r))
def stiRowFits_L0 (p1 : (List Int)) (p0 : (List GValue)) (x14 : Int) : St := ⟨[(1, (.d (.sl 1 (p1.map cI)))), (12, (.d (.sl 3 (p0.map cGValue)))), (13, (vI (p0.length : Int))), (14, (vI x14))], []⟩
abbrev moiRowFits_L0 (p1 : (List Int)) (p0 : (List GValue)) (x14 : Int) (r : Bool) : Prop := avc Tryd.prog aciRowFits_L0 (qiRowFits_1 r) (stiRowFits_L0 p1 p0 x14)
def aciFitsType : AC := (.seq (.ops [.box 2 64 0, .asg 4 (kB false)]) (.seq (.ops [.ld 5 3 true 2, .call (some 6) 39 [5], .mv 7 6, .g 7 true (.fa 8 0 2), .g 7 true (.ld 9 1 false 8), .g 7 true (.bin 10 .eql 9 (kI 0)), .g 7 true (.mv 11 10), .g 11 false (.fa 12 0 2), .g 11 false (.ld 13 1 false 12), .g 11 false (.mv 14 1), .g 11 false (.bin 15 .eql 13 14), .g 7 true (.pick 16 11 (kB true) 15), .pick 17 7 16 (kB false), .asg 4 17]) .ret))
theorem triFitsType : trFn Tryd.prog 35 = some (aciFitsType, [.mv 0 4], 18) := by kernel_rfl
def qiFitsType (r : Bool) : Exit → St → Prop := retQ [.mv 0 4] fun x _ => x = (fun y => (vB y)) r
def aciCatalogOk_L0 : AC := (.loop (.seq (.ops [.bin 9 .lss 8 7]) (.seq (.cond 9 .skip (.exit 0)) (.seq (.block 1 (.seq (.ops [.mv 10 8, .ia 11 2 6 8, .ld 12 2 true 11, .alc 4 [(.d (.s (bs []))), (.nil 2)], .asg 3 10, .st 2 4 12]) (.seq (.ops [.ld 13 2 true 4, .call (some 14) 32 [13], .not 15 14, .mv 16 15, .g 16 false (.ld 17 1 true 1), .g 16 false (.fa 18 0 4), .g 16 false (.ld 19 1 false 18), .g 16 false (.call (some 20) 33 [17, 19]), .g 16 false (.mv 21 3), .g 16 false (.bin 22 .neq 20 21), .pick 23 16 (kB true) 22]) (.cond 23 (.seq (.ops [.asg 2 (kB false)]) .ret) .skip)))) (.ops [.bin 24 .add 8 (kI 1), .mv 8 24])))))
def cciCatalogOk_0 : AC := (.seq (.ops [.fa 25 0 1, .ld 26 1 false 25, .len 27 26, .bin 28 .leq 27 (kI 4), .asg 2 28]) .ret)
def aciCatalogOk : AC := (.seq (.ops [.box 1 26 0, .asg 2 (kB false)]) (.seq (.seq (.ops [.fa 5 0 1, .ld 6 1 false 5, .len 7 6, .mv 8 (kI 0)]) (.block 0 aciCatalogOk_L0)) cciCatalogOk_0))
theorem triCatalogOk : trFn Tryd.prog 13 = some (aciCatalogOk, [.mv 0 2], 29) := by kernel_rfl
def qiCatalogOk (r : Bool) : Exit → St → Prop := retQ [.mv 0 2] fun x _ => x = (fun y => (vB y)) r
def qiCatalogOk_0 (r : Bool) : Exit → St → Prop := (thenK (wkK (avc Tryd.prog cciCatalogOk_0 (qiCatalogOk r))) (qiCatalogOk r))
def qiCatalogOk_1 (r : Bool) : Exit → St → Prop := (blockK 0 (qiCatalogOk_0 r))
def stiCatalogOk_L0 (p0 : GCatalog) (x8 : Int) : St := ⟨[(1, (.ptr 1 0)), (6, (.d (.sl 2 (p0.tables.map cGTable)))), (7, (vI (p0.tables.length : Int))), (8, (vI x8))], [(1, bGCatalog p0)]⟩
abbrev moiCatalogOk_L0 (p0 : GCatalog) (x8 : Int) (r : Bool) : Prop := avc Tryd.prog aciCatalogOk_L0 (qiCatalogOk_1 r) (stiCatalogOk_L0 p0 x8)
def aciTableAt : AC := (.seq (.ops [.box 2 26 0, .box 3 9 1, .asg 4 (kI 0)]) (.seq (.ops [.fa 5 0 2, .ld 6 1 false 5, .mkf 7 52 [3], .call (some 8) 51 [6, 7], .asg 4 8]) .ret))
theorem triTableAt : trFn Tryd.prog 33 = some (aciTableAt, [.mv 0 4], 9) := by kernel_rfl
def qiTableAt (r : Int) : Exit → St → Prop := retQ [.mv 0 4] fun x _ => x = (fun y => (vI y)) r
def acgSlices_IndexFunc_Simpl_Table_impl_Table_iTableAt_1_L0 : AC := (.loop (.seq (.ops [.bin 9 .lss 8 7]) (.seq (.cond 9 .skip (.exit 0)) (.seq (.block 1 (.seq (.ops [.mv 10 8, .asg 5 10]) (.seq (.ops [.mv 11 1, .mv 12 0, .mv 13 5, .ia 14 2 12 13, .ld 15 2 true 14, .callv (some 16) 11 [15]]) (.cond 16 (.seq (.ops [.mv 17 5, .asg 4 17]) .ret) .skip)))) (.ops [.bin 18 .add 8 (kI 1), .mv 8 18])))))
def ccgSlices_IndexFunc_Simpl_Table_impl_Table_iTableAt_1_0 : AC := (.seq (.ops [.asg 4 (kI (-1))]) .ret)
def acgSlices_IndexFunc_Simpl_Table_impl_Table_iTableAt_1 : AC := (.seq (.ops [.asg 4 (kI 0)]) (.seq (.seq (.ops [.mv 6 0, .len 7 6, .mv 8 (kI 0)]) (.block 0 acgSlices_IndexFunc_Simpl_Table_impl_Table_iTableAt_1_L0)) ccgSlices_IndexFunc_Simpl_Table_impl_Table_iTableAt_1_0))
theorem trgSlices_IndexFunc_Simpl_Table_impl_Table_iTableAt_1 : trFn Tryd.prog 51 = some (acgSlices_IndexFunc_Simpl_Table_impl_Table_iTableAt_1, [.mv 0 4], 19) := by kernel_rfl
def qgSlices_IndexFunc_Simpl_Table_impl_Table_iTableAt_1 (c0_0 : (List UInt8)) (r : Int) : Exit → St → Prop := retQ [.mv 0 4] fun x b => x = (fun (y : Int) => (vI y)) r ∧ bxHas ((fun (y : Int) => [(1000000, [(vS c0_0)])]) r) b
def qgSlices_IndexFunc_Simpl_Table_impl_Table_iTableAt_1_0 (c0_0 : (List UInt8)) (r : Int) : Exit → St → Prop := (thenK (wkK (avc Tryd.prog ccgSlices_IndexFunc_Simpl_Table_impl_Table_iTableAt_1_0 (qgSlices_IndexFunc_Simpl_Table_impl_Table_iTableAt_1 c0_0 r))) (qgSlices_IndexFunc_Simpl_Table_impl_Table_iTableAt_1 c0_0 r))
def qgSlices_IndexFunc_Simpl_Table_impl_Table_iTableAt_1_1 (c0_0 : (List UInt8)) (r : Int) : Exit → St → Prop := (blockK 0 (qgSlices_IndexFunc_Simpl_Table_impl_Table_iTableAt_1_0 c0_0 r))
def stgSlices_IndexFunc_Simpl_Table_impl_Table_iTableAt_1_L0 (p0 : (List GTable)) (c0_0 : (List UInt8)) (x8 : Int) : St := ⟨[(0, (.d (.sl 2 (p0.map cGTable)))), (1, (.fn 52 [(.ptr 1000000 0)])), (7, (vI (p0.length : Int))), (8, (vI x8))], [(1000000, [(vS c0_0)])]⟩
abbrev mogSlices_IndexFunc_Simpl_Table_impl_Table_iTableAt_1_L0 (p0 : (List GTable)) (c0_0 : (List UInt8)) (x8 : Int) (r : Int) : Prop := avc Tryd.prog acgSlices_IndexFunc_Simpl_Table_impl_Table_iTableAt_1_L0 (qgSlices_IndexFunc_Simpl_Table_impl_Table_iTableAt_1_1 c0_0 r) (stgSlices_IndexFunc_Simpl_Table_impl_Table_iTableAt_1_L0 p0 c0_0 x8)
def aciTableAt_1_x : AC := (.seq (.ops [.box 2 46 0, .asg 3 (kB false)]) (.seq (.ops [.fa 4 0 2, .ld 5 1 false 4, .ld 6 1 false 1, .bin 7 .eql 5 6, .asg 3 7]) .ret))
theorem triTableAt_1_x : trFn Tryd.prog 52 = some (aciTableAt_1_x, [.mv 0 3], 8) := by kernel_rfl
def qiTableAt_1_x (c0_0 : (List UInt8)) (r : Bool) : Exit → St → Prop := retQ [.mv 0 3] fun x b => x = (fun (y : Bool) => (vB y)) r ∧ bxHas ((fun (y : Bool) => [(1000000, [(vS c0_0)])]) r) b
def aciIsTable_L0 : AC := (.loop (.seq (.ops [.bin 9 .lss 8 7]) (.seq (.cond 9 .skip (.exit 0)) (.seq (.block 1 (.seq (.ops [.mv 10 8, .ia 11 2 6 8, .ld 12 2 true 11, .alc 4 [(.d (.s (bs []))), (.d (.i .i64 0))], .asg 3 10, .st 2 4 12]) (.seq (.ops [.fa 13 0 4, .ld 14 1 false 13, .call (some 15) 49 [14], .not 16 15, .mv 17 16, .g 17 false (.fa 18 1 4), .g 17 false (.ld 19 1 false 18), .g 17 false (.bin 20 .lss 19 (kI 1)), .pick 21 17 (kB true) 20, .mv 22 21, .g 22 false (.fa 23 1 4), .g 22 false (.ld 24 1 false 23), .g 22 false (.bin 25 .gtr 24 (kI 3)), .pick 26 22 (kB true) 25, .mv 27 26, .g 27 false (.ld 28 2 true 1), .g 27 false (.fa 29 0 4), .g 27 false (.ld 30 1 false 29), .g 27 false (.call (some 31) 50 [28, 30]), .g 27 false (.mv 32 3), .g 27 false (.bin 33 .neq 31 32), .pick 34 27 (kB true) 33]) (.cond 34 (.seq (.ops [.asg 2 (kB false)]) .ret) .skip)))) (.ops [.bin 35 .add 8 (kI 1), .mv 8 35])))))
def cciIsTable_0 : AC := (.seq (.ops [.fa 36 0 1, .ld 37 1 false 36, .call (some 38) 49 [37], .mv 39 38, .g 39 true (.fa 40 1 1), .g 39 true (.ld 41 1 false 40), .g 39 true (.len 42 41), .g 39 true (.bin 43 .geq 42 (kI 1)), .pick 44 39 43 (kB false), .mv 45 44, .g 45 true (.fa 46 1 1), .g 45 true (.ld 47 1 false 46), .g 45 true (.len 48 47), .g 45 true (.bin 49 .leq 48 (kI 4)), .pick 50 45 49 (kB false), .asg 2 50]) .ret)
def aciIsTable : AC := (.seq (.ops [.box 1 46 0, .asg 2 (kB false)]) (.seq (.seq (.ops [.fa 5 1 1, .ld 6 1 false 5, .len 7 6, .mv 8 (kI 0)]) (.block 0 aciIsTable_L0)) cciIsTable_0))
theorem triIsTable : trFn Tryd.prog 32 = some (aciIsTable, [.mv 0 2], 51) := by kernel_rfl
def qiIsTable (r : Bool) : Exit → St → Prop := retQ [.mv 0 2] fun x _ => x = (fun y => (vB y)) r
def qiIsTable_0 (r : Bool) : Exit → St → Prop := (thenK (wkK (avc Tryd.prog cciIsTable_0 (qiIsTable r))) (qiIsTable r))
def qiIsTable_1 (r : Bool) : Exit → St → Prop := (blockK 0 (qiIsTable_0 r))
def stiIsTable_L0 (p0 : GTable) (x8 : Int) : St := ⟨[(1, (.ptr 1 0)), (6, (.d (.sl 2 (p0.cols.map cGCol)))), (7, (vI (p0.cols.length : Int))), (8, (vI x8))], [(1, bGTable p0)]⟩
abbrev moiIsTable_L0 (p0 : GTable) (x8 : Int) (r : Bool) : Prop := avc Tryd.prog aciIsTable_L0 (qiIsTable_1 r) (stiIsTable_L0 p0 x8)
def aciNameOk : AC := (.seq (.ops [.asg 2 (kB false)]) (.seq (.ops [.mv 3 0, .lns 4 3, .bin 5 .geq 4 (kI 1), .mv 6 5, .g 6 true (.mv 7 0), .g 6 true (.lns 8 7), .g 6 true (.bin 9 .leq 8 (kI 20)), .pick 10 6 9 (kB false), .asg 2 10]) .ret))
theorem triNameOk : trFn Tryd.prog 49 = some (aciNameOk, [.mv 0 2], 11) := by kernel_rfl
def qiNameOk (r : Bool) : Exit → St → Prop := retQ [.mv 0 2] fun x _ => x = (fun y => (vB y)) r
def aciColAt : AC := (.seq (.ops [.box 2 46 0, .box 3 9 1, .asg 4 (kI 0)]) (.seq (.ops [.fa 5 1 2, .ld 6 1 false 5, .mkf 7 57 [3], .call (some 8) 56 [6, 7], .asg 4 8]) .ret))
theorem triColAt : trFn Tryd.prog 50 = some (aciColAt, [.mv 0 4], 9) := by kernel_rfl
def qiColAt (r : Int) : Exit → St → Prop := retQ [.mv 0 4] fun x _ => x = (fun y => (vI y)) r
def acgSlices_IndexFunc_Simpl_Col_impl_Col_iColAt_1_L0 : AC := (.loop (.seq (.ops [.bin 9 .lss 8 7]) (.seq (.cond 9 .skip (.exit 0)) (.seq (.block 1 (.seq (.ops [.mv 10 8, .asg 5 10]) (.seq (.ops [.mv 11 1, .mv 12 0, .mv 13 5, .ia 14 2 12 13, .ld 15 2 true 14, .callv (some 16) 11 [15]]) (.cond 16 (.seq (.ops [.mv 17 5, .asg 4 17]) .ret) .skip)))) (.ops [.bin 18 .add 8 (kI 1), .mv 8 18])))))
def ccgSlices_IndexFunc_Simpl_Col_impl_Col_iColAt_1_0 : AC := (.seq (.ops [.asg 4 (kI (-1))]) .ret)
def acgSlices_IndexFunc_Simpl_Col_impl_Col_iColAt_1 : AC := (.seq (.ops [.asg 4 (kI 0)]) (.seq (.seq (.ops [.mv 6 0, .len 7 6, .mv 8 (kI 0)]) (.block 0 acgSlices_IndexFunc_Simpl_Col_impl_Col_iColAt_1_L0)) ccgSlices_IndexFunc_Simpl_Col_impl_Col_iColAt_1_0))
theorem trgSlices_IndexFunc_Simpl_Col_impl_Col_iColAt_1 : trFn Tryd.prog 56 = some (acgSlices_IndexFunc_Simpl_Col_impl_Col_iColAt_1, [.mv 0 4], 19) := by kernel_rfl
def qgSlices_IndexFunc_Simpl_Col_impl_Col_iColAt_1 (c0_0 : (List UInt8)) (r : Int) : Exit → St → Prop := retQ [.mv 0 4] fun x b => x = (fun (y : Int) => (vI y)) r ∧ bxHas ((fun (y : Int) => [(1000000, [(vS c0_0)])]) r) b
def qgSlices_IndexFunc_Simpl_Col_impl_Col_iColAt_1_0 (c0_0 : (List UInt8)) (r : Int) : Exit → St → Prop := (thenK (wkK (avc Tryd.prog ccgSlices_IndexFunc_Simpl_Col_impl_Col_iColAt_1_0 (qgSlices_IndexFunc_Simpl_Col_impl_Col_iColAt_1 c0_0 r))) (qgSlices_IndexFunc_Simpl_Col_impl_Col_iColAt_1 c0_0 r))
def qgSlices_IndexFunc_Simpl_Col_impl_Col_iColAt_1_1 (c0_0 : (List UInt8)) (r : Int) : Exit → St → Prop := (blockK 0 (qgSlices_IndexFunc_Simpl_Col_impl_Col_iColAt_1_0 c0_0 r))
def stgSlices_IndexFunc_Simpl_Col_impl_Col_iColAt_1_L0 (p0 : (List GCol)) (c0_0 : (List UInt8)) (x8 : Int) : St := ⟨[(0, (.d (.sl 2 (p0.map cGCol)))), (1, (.fn 57 [(.ptr 1000000 0)])), (7, (vI (p0.length : Int))), (8, (vI x8))], [(1000000, [(vS c0_0)])]⟩
abbrev mogSlices_IndexFunc_Simpl_Col_impl_Col_iColAt_1_L0 (p0 : (List GCol)) (c0_0 : (List UInt8)) (x8 : Int) (r : Int) : Prop := avc Tryd.prog acgSlices_IndexFunc_Simpl_Col_impl_Col_iColAt_1_L0 (qgSlices_IndexFunc_Simpl_Col_impl_Col_iColAt_1_1 c0_0 r) (stgSlices_IndexFunc_Simpl_Col_impl_Col_iColAt_1_L0 p0 c0_0 x8)
def aciColAt_1_x : AC := (.seq (.ops [.box 2 55 0, .asg 3 (kB false)]) (.seq (.ops [.fa 4 0 2, .ld 5 1 false 4, .ld 6 1 false 1, .bin 7 .eql 5 6, .asg 3 7]) .ret))
theorem triColAt_1_x : trFn Tryd.prog 57 = some (aciColAt_1_x, [.mv 0 3], 8) := by kernel_rfl
def qiColAt_1_x (c0_0 : (List UInt8)) (r : Bool) : Exit → St → Prop := retQ [.mv 0 3] fun x b => x = (fun (y : Bool) => (vB y)) r ∧ bxHas ((fun (y : Bool) => [(1000000, [(vS c0_0)])]) r) b
def acwBig : AC := (.seq (.ops [.asg 2 (kB false)]) (.seq (.ops [.mv 3 0, .len 4 3, .bin 5 .gtr 4 (kI 1048576), .asg 2 5]) .ret))
theorem trwBig : trFn Tryd.prog 4 = some (acwBig, [.mv 0 2], 6) := by kernel_rfl
def qwBig (r : Bool) : Exit → St → Prop := retQ [.mv 0 2] fun x _ => x = (fun y => (vB y)) r
def aciSameDb : AC := (.seq (.ops [.box 2 30 0, .box 3 30 1, .asg 4 (kB false)]) (.seq (.ops [.fa 5 0 2, .ld 6 1 false 5, .fa 7 0 3, .ld 8 1 false 7, .call (some 9) 22 [6, 8, (.c (.fn 23 []))], .asg 4 9]) .ret))
theorem triSameDb : trFn Tryd.prog 9 = some (aciSameDb, [.mv 0 4], 10) := by kernel_rfl
def qiSameDb (r : Bool) : Exit → St → Prop := retQ [.mv 0 4] fun x _ => x = (fun y => (vB y)) r
def acgSlices_EqualFunc_Simpl_Data_Simpl_Data_impl_Data_impl_Data_iSameDb_1_L0 : AC := (.loop (.seq (.ops [.bin 18 .lss 17 16]) (.seq (.cond 18 .skip (.exit 0)) (.seq (.block 1 (.seq (.ops [.mv 19 17, .ia 20 1 15 17, .ld 21 1 true 20, .alc 8 [(.nil 1)], .asg 7 19, .st 1 8 21]) (.seq (.ops [.mv 22 1, .mv 23 7, .ia 24 1 22 23, .ld 25 1 true 24, .alc 9 [(.nil 1)], .st 1 9 25]) (.seq (.ops [.mv 26 2, .ld 27 1 true 8, .ld 28 1 true 9, .callv (some 29) 26 [27, 28], .not 30 29]) (.cond 30 (.seq (.ops [.asg 6 (kB false)]) .ret) .skip))))) (.ops [.bin 31 .add 17 (kI 1), .mv 17 31])))))
def ccgSlices_EqualFunc_Simpl_Data_Simpl_Data_impl_Data_impl_Data_iSameDb_1_0 : AC := (.seq (.ops [.asg 6 (kB true)]) .ret)
def acgSlices_EqualFunc_Simpl_Data_Simpl_Data_impl_Data_impl_Data_iSameDb_1 : AC := (.seq (.ops [.asg 6 (kB false)]) (.seq (.seq (.ops [.mv 10 0, .len 11 10, .mv 12 1, .len 13 12, .bin 14 .neq 11 13]) (.cond 14 (.seq (.ops [.asg 6 (kB false)]) .ret) .skip)) (.seq (.seq (.ops [.mv 15 0, .len 16 15, .mv 17 (kI 0)]) (.block 0 acgSlices_EqualFunc_Simpl_Data_Simpl_Data_impl_Data_impl_Data_iSameDb_1_L0)) ccgSlices_EqualFunc_Simpl_Data_Simpl_Data_impl_Data_impl_Data_iSameDb_1_0)))
theorem trgSlices_EqualFunc_Simpl_Data_Simpl_Data_impl_Data_impl_Data_iSameDb_1 : trFn Tryd.prog 22 = some (acgSlices_EqualFunc_Simpl_Data_Simpl_Data_impl_Data_impl_Data_iSameDb_1, [.mv 0 6], 32) := by kernel_rfl
def qgSlices_EqualFunc_Simpl_Data_Simpl_Data_impl_Data_impl_Data_iSameDb_1 (r : Bool) : Exit → St → Prop := retQ [.mv 0 6] fun x _ => x = (fun y => (vB y)) r
def qgSlices_EqualFunc_Simpl_Data_Simpl_Data_impl_Data_impl_Data_iSameDb_1_0 (r : Bool) : Exit → St → Prop := (thenK (wkK (avc Tryd.prog ccgSlices_EqualFunc_Simpl_Data_Simpl_Data_impl_Data_impl_Data_iSameDb_1_0 (qgSlices_EqualFunc_Simpl_Data_Simpl_Data_impl_Data_impl_Data_iSameDb_1 r))) (qgSlices_EqualFunc_Simpl_Data_Simpl_Data_impl_Data_impl_Data_iSameDb_1 r))
def qgSlices_EqualFunc_Simpl_Data_Simpl_Data_impl_Data_impl_Data_iSameDb_1_1 (r : Bool) : Exit → St → Prop := (blockK 0 (qgSlices_EqualFunc_Simpl_Data_Simpl_Data_impl_Data_impl_Data_iSameDb_1_0 r))
def stgSlices_EqualFunc_Simpl_Data_Simpl_Data_impl_Data_impl_Data_iSameDb_1_L0 (p1 : (List GData)) (p0 : (List GData)) (x17 : Int) : St := ⟨[(1, (.d (.sl 1 (p1.map cGData)))), (2, (.fn 23 [])), (15, (.d (.sl 1 (p0.map cGData)))), (16, (vI (p0.length : Int))), (17, (vI x17))], []⟩
abbrev mogSlices_EqualFunc_Simpl_Data_Simpl_Data_impl_Data_impl_Data_iSameDb_1_L0 (p1 : (List GData)) (p0 : (List GData)) (x17 : Int) (r : Bool) : Prop := avc Tryd.prog acgSlices_EqualFunc_Simpl_Data_Simpl_Data_impl_Data_impl_Data_iSameDb_1_L0 (qgSlices_EqualFunc_Simpl_Data_Simpl_Data_impl_Data_impl_Data_iSameDb_1_1 r) (stgSlices_EqualFunc_Simpl_Data_Simpl_Data_impl_Data_impl_Data_iSameDb_1_L0 p1 p0 x17)
def aciSameDb_1 : AC := (.seq (.ops [.box 2 41 0, .box 3 41 1, .asg 4 (kB false)]) (.seq (.ops [.fa 5 0 2, .ld 6 1 false 5, .fa 7 0 3, .ld 8 1 false 7, .call (some 9) 24 [6, 8], .asg 4 9]) .ret))
theorem triSameDb_1 : trFn Tryd.prog 23 = some (aciSameDb_1, [.mv 0 4], 10) := by kernel_rfl
def qiSameDb_1 (r : Bool) : Exit → St → Prop := retQ [.mv 0 4] fun x _ => x = (fun y => (vB y)) r
def aciSameRows : AC := (.seq (.ops [.asg 4 (kB false)]) (.seq (.ops [.mv 5 0, .mv 6 1, .call (some 7) 36 [5, 6, (.c (.fn 37 []))], .asg 4 7]) .ret))
theorem triSameRows : trFn Tryd.prog 24 = some (aciSameRows, [.mv 0 4], 8) := by kernel_rfl
def qiSameRows (r : Bool) : Exit → St → Prop := retQ [.mv 0 4] fun x _ => x = (fun y => (vB y)) r
def acgSlices_EqualFunc_SSimpl_Value_SSimpl_Value_Simpl_Value_Simpl_Value_gSlices_Equal_Simpl_Value_impl_Value_L0 : AC := (.loop (.seq (.ops [.bin 18 .lss 17 16]) (.seq (.cond 18 .skip (.exit 0)) (.seq (.block 1 (.seq (.ops [.mv 19 17, .ia 20 1 15 17, .ld 21 1 false 20, .asg 7 19, .asg 8 21]) (.seq (.ops [.mv 22 1, .mv 23 7, .ia 24 1 22 23, .ld 25 1 false 24, .asg 9 25]) (.seq (.ops [.mv 26 2, .mv 27 8, .mv 28 9, .callv (some 29) 26 [27, 28], .not 30 29]) (.cond 30 (.seq (.ops [.asg 6 (kB false)]) .ret) .skip))))) (.ops [.bin 31 .add 17 (kI 1), .mv 17 31])))))
def ccgSlices_EqualFunc_SSimpl_Value_SSimpl_Value_Simpl_Value_Simpl_Value_gSlices_Equal_Simpl_Value_impl_Value_0 : AC := (.seq (.ops [.asg 6 (kB true)]) .ret)
def acgSlices_EqualFunc_SSimpl_Value_SSimpl_Value_Simpl_Value_Simpl_Value_gSlices_Equal_Simpl_Value_impl_Value : AC := (.seq (.ops [.asg 6 (kB false)]) (.seq (.seq (.ops [.mv 10 0, .len 11 10, .mv 12 1, .len 13 12, .bin 14 .neq 11 13]) (.cond 14 (.seq (.ops [.asg 6 (kB false)]) .ret) .skip)) (.seq (.seq (.ops [.mv 15 0, .len 16 15, .mv 17 (kI 0)]) (.block 0 acgSlices_EqualFunc_SSimpl_Value_SSimpl_Value_Simpl_Value_Simpl_Value_gSlices_Equal_Simpl_Value_impl_Value_L0)) ccgSlices_EqualFunc_SSimpl_Value_SSimpl_Value_Simpl_Value_Simpl_Value_gSlices_Equal_Simpl_Value_impl_Value_0)))
theorem trgSlices_EqualFunc_SSimpl_Value_SSimpl_Value_Simpl_Value_Simpl_Value_gSlices_Equal_Simpl_Value_impl_Value : trFn Tryd.prog 36 = some (acgSlices_EqualFunc_SSimpl_Value_SSimpl_Value_Simpl_Value_Simpl_Value_gSlices_Equal_Simpl_Value_impl_Value, [.mv 0 6], 32) := by kernel_rfl
def qgSlices_EqualFunc_SSimpl_Value_SSimpl_Value_Simpl_Value_Simpl_Value_gSlices_Equal_Simpl_Value_impl_Value (r : Bool) : Exit → St → Prop := retQ [.mv 0 6] fun x _ => x = (fun y => (vB y)) r
def qgSlices_EqualFunc_SSimpl_Value_SSimpl_Value_Simpl_Value_Simpl_Value_gSlices_Equal_Simpl_Value_impl_Value_0 (r : Bool) : Exit → St → Prop := (thenK (wkK (avc Tryd.prog ccgSlices_EqualFunc_SSimpl_Value_SSimpl_Value_Simpl_Value_Simpl_Value_gSlices_Equal_Simpl_Value_impl_Value_0 (qgSlices_EqualFunc_SSimpl_Value_SSimpl_Value_Simpl_Value_Simpl_Value_gSlices_Equal_Simpl_Value_impl_Value r))) (qgSlices_EqualFunc_SSimpl_Value_SSimpl_Value_Simpl_Value_Simpl_Value_gSlices_Equal_Simpl_Value_impl_Value r))
def qgSlices_EqualFunc_SSimpl_Value_SSimpl_Value_Simpl_Value_Simpl_Value_gSlices_Equal_Simpl_Value_impl_Value_1 (r : Bool) : Exit → St → Prop := (blockK 0 (qgSlices_EqualFunc_SSimpl_Value_SSimpl_Value_Simpl_Value_Simpl_Value_gSlices_Equal_Simpl_Value_impl_Value_0 r))
def stgSlices_EqualFunc_SSimpl_Value_SSimpl_Value_Simpl_Value_Simpl_Value_gSlices_Equal_Simpl_Value_impl_Value_L0 (p1 : (List (List GValue))) (p0 : (List (List GValue))) (x17 : Int) : St := ⟨[(1, (.d (.sl 1 (p1.map (cSl 3 cGValue))))), (2, (.fn 37 [])), (15, (.d (.sl 1 (p0.map (cSl 3 cGValue))))), (16, (vI (p0.length : Int))), (17, (vI x17))], []⟩
abbrev mogSlices_EqualFunc_SSimpl_Value_SSimpl_Value_Simpl_Value_Simpl_Value_gSlices_Equal_Simpl_Value_impl_Value_L0 (p1 : (List (List GValue))) (p0 : (List (List GValue))) (x17 : Int) (r : Bool) : Prop := avc Tryd.prog acgSlices_EqualFunc_SSimpl_Value_SSimpl_Value_Simpl_Value_Simpl_Value_gSlices_Equal_Simpl_Value_impl_Value_L0 (qgSlices_EqualFunc_SSimpl_Value_SSimpl_Value_Simpl_Value_Simpl_Value_gSlices_Equal_Simpl_Value_impl_Value_1 r) (stgSlices_EqualFunc_SSimpl_Value_SSimpl_Value_Simpl_Value_Simpl_Value_gSlices_Equal_Simpl_Value_impl_Value_L0 p1 p0 x17)
def acgSlices_Equal_Simpl_Value_impl_Value_L0 : AC := (.loop (.seq (.ops [.bin 14 .lss 13 12]) (.seq (.cond 14 .skip (.exit 0)) (.seq (.block 1 (.seq (.ops [.mv 15 13, .asg 5 15]) (.seq (.dops [[], [], [0, 1], [2], [], [], [4, 5], [6], [3, 7]] [.mv 16 0, .mv 17 5, .ia 18 3 16 17, .ld 19 3 true 18, .mv 20 1, .mv 21 5, .ia 22 3 20 21, .ld 23 3 true 22, .eqv 24 true [0, 0, 1] 19 23]) (.cond 24 (.seq (.ops [.asg 4 (kB false)]) .ret) .skip)))) (.ops [.bin 25 .add 13 (kI 1), .mv 13 25])))))
def ccgSlices_Equal_Simpl_Value_impl_Value_0 : AC := (.seq (.ops [.asg 4 (kB true)]) .ret)
def acgSlices_Equal_Simpl_Value_impl_Value : AC := (.seq (.ops [.asg 4 (kB false)]) (.seq (.seq (.ops [.mv 6 0, .len 7 6, .mv 8 1, .len 9 8, .bin 10 .neq 7 9]) (.cond 10 (.seq (.ops [.asg 4 (kB false)]) .ret) .skip)) (.seq (.seq (.ops [.mv 11 0, .len 12 11, .mv 13 (kI 0)]) (.block 0 acgSlices_Equal_Simpl_Value_impl_Value_L0)) ccgSlices_Equal_Simpl_Value_impl_Value_0)))
theorem trgSlices_Equal_Simpl_Value_impl_Value : trFn Tryd.prog 37 = some (acgSlices_Equal_Simpl_Value_impl_Value, [.mv 0 4], 26) := by kernel_rfl
def qgSlices_Equal_Simpl_Value_impl_Value (r : Bool) : Exit → St → Prop := retQ [.mv 0 4] fun x _ => x = (fun y => (vB y)) r
def qgSlices_Equal_Simpl_Value_impl_Value_0 (r : Bool) : Exit → St → Prop := (thenK (wkK (avc Tryd.prog ccgSlices_Equal_Simpl_Value_impl_Value_0 (qgSlices_Equal_Simpl_Value_impl_Value r))) (qgSlices_Equal_Simpl_Value_impl_Value r))
def qgSlices_Equal_Simpl_Value_impl_Value_1 (r : Bool) : Exit → St → Prop := (blockK 0 (qgSlices_Equal_Simpl_Value_impl_Value_0 r))
def stgSlices_Equal_Simpl_Value_impl_Value_L0 (p0 : (List GValue)) (p1 : (List GValue)) (x13 : Int) : St := ⟨[(0, (.d (.sl 3 (p0.map cGValue)))), (1, (.d (.sl 3 (p1.map cGValue)))), (12, (vI (p0.length : Int))), (13, (vI x13))], []⟩
abbrev mogSlices_Equal_Simpl_Value_impl_Value_L0 (p0 : (List GValue)) (p1 : (List GValue)) (x13 : Int) (r : Bool) : Prop := avc Tryd.prog acgSlices_Equal_Simpl_Value_impl_Value_L0 (qgSlices_Equal_Simpl_Value_impl_Value_1 r) (stgSlices_Equal_Simpl_Value_impl_Value_L0 p0 p1 x13)
def acsDrawEmptyDb : AC := (.seq (.ops [.alc 2 [(.nil 2)]]) (.seq (.ops [.mv 3 0, .call (some 4) 12 [3], .call (some 5) 11 [4], .st 1 2 5]) .ret))
theorem trsDrawEmptyDb : trFn Tryd.prog 5 = some (acsDrawEmptyDb, [.ld 0 1 true 2], 6) := by kernel_rfl
def qsDrawEmptyDb (r : GCatalog) : Exit → St → Prop := retQ [.ld 0 1 true 2] fun x _ => x = (fun y => (vGCatalog y)) r
def acsL16Draw_J0 : AC := (.seq (.ops [.ld 79 1 true 3, .st 1 2 79]) .ret)
def acsL16Draw_L1 : AC := (.loop (.seq (.seq (.dops [[], [0], [1], [], [3], [4], [2, 5]] [.fa 56 0 3, .ld 57 1 false 56, .len 58 57, .mv 59 0, .call (some 60) 29 [59, (kI 2)], .bin 61 .add (kI 4) 60, .bin 62 .lss 58 61]) (.cond 62 .skip (.exit 1))) (.block 2 (.dops [[], [0], [], [2], [3], [4], [5], [], [], [], [], [7, 8, 9, 10], [6, 11], [12], [1, 13, 5], [0, 1, 2, 3, 4, 5, 6, 7, 8, 9, 10, 11, 12, 13, 14], [15, 14, 14, 0, 1, 2, 3, 4, 5, 6, 7, 8, 9, 10, 11, 12, 13, 14]] [.fa 63 0 3, .ld 64 1 false 63, .fa 65 0 3, .ld 66 1 false 65, .len 67 66, .call (some 68) 31 [67], .bin 69 .add (.c (.d (.s (bs [120])))) 68, .bld 70 [(.d (.s (bs []))), (.d (.i .i64 0))] [(0, 1, (.c (.d (.s (bs [97]))))), (1, 1, (kI 1))], .bld 71 [(.d (.s (bs []))), (.d (.i .i64 0))] [(0, 1, (.c (.d (.s (bs [98]))))), (1, 1, (kI 1))], .bld 72 [(.d (.s (bs []))), (.d (.i .i64 0))] [(0, 1, (.c (.d (.s (bs [99]))))), (1, 1, (kI 2))], .bld 73 [(.d (.s (bs []))), (.d (.i .i64 0))] [(0, 1, (.c (.d (.s (bs [100]))))), (1, 1, (kI 3))], .bsl 74 55 2 [70, 71, 72, 73], .bld 75 [(.d (.s (bs []))), (.nil 2)] [(0, 1, 69), (1, 1, 74)], .bsl 76 46 2 [75], .app 77 46 2 40 64 76, .fa 78 0 3, .st 1 78 77]))))
def acsL16Draw : AC := (.seq (.ops [.alc 2 [(.nil 2)]]) (.seq (.ops [.mv 4 0, .call (some 5) 28 [4], .alc 3 [(.nil 2)], .st 1 3 5]) (.seq (.seq (.ops [.mv 6 0, .call (some 7) 29 [6, (kI 16)]]) (.block 0 (.seq (.ops [.bin 9 .eql 7 (kI 0), .asg 8 9]) (.cond 8 (.dops [[], [0], [], [2], [3], [4], [5], [1, 6], [0, 1, 2, 3, 4, 5, 6, 7], [8, 7, 7, 0, 1, 2, 3, 4, 5, 6, 7]] [.fa 10 0 3, .ld 11 1 false 10, .fa 12 0 3, .ld 13 1 false 12, .ia 14 2 13 (kI 0), .ld 15 2 true 14, .bsl 16 46 2 [15], .app 17 46 2 40 11 16, .fa 18 0 3, .st 1 18 17]) (.seq (.ops [.bin 20 .eql 7 (kI 1), .asg 19 20]) (.cond 19 (.dops [[], [0], [], [2], [3], [4], [5], [], [7], [], [9, 8], [8, 10], [11], [6, 12, 10], [1, 0, 1, 2, 3, 4, 5, 6, 7, 8, 9, 10, 11, 12, 13], [14, 0, 1, 2, 3, 4, 5, 6, 7, 8, 9, 10, 11, 12, 13], [15, 13, 13, 0, 1, 2, 3, 4, 5, 6, 7, 8, 9, 10, 11, 12, 13]] [.fa 21 0 3, .ld 22 1 false 21, .fa 23 0 3, .ld 24 1 false 23, .ia 25 2 24 (kI 0), .fa 26 1 25, .ld 27 1 false 26, .mv 28 0, .call (some 29) 30 [28], .mv 30 0, .call (some 31) 29 [30, (kI 5)], .bld 32 [(.d (.s (bs []))), (.d (.i .i64 0))] [(0, 1, 29), (1, 1, 31)], .bsl 33 55 2 [32], .app 34 55 2 24 27 33, .ia 35 2 22 (kI 0), .fa 36 1 35, .st 1 36 34]) (.seq (.ops [.bin 38 .eql 7 (kI 2), .asg 37 38]) (.cond 37 (.dops [[], [0], [], [2], [1, 0, 1, 2, 3], [4, 0, 1, 2, 3], [5, 3, 3, 0, 1, 2, 3]] [.fa 39 0 3, .ld 40 1 false 39, .mv 41 0, .call (some 42) 30 [41], .ia 43 2 40 (kI 0), .fa 44 0 43, .st 1 44 42]) (.seq (.ops [.bin 46 .eql 7 (kI 3), .asg 45 46]) (.cond 45 (.ops [.fa 47 0 3, .ld 48 1 false 47, .ia 49 2 48 (kI 0), .fa 50 1 49, .st 1 50 (.c (.nil 2))]) (.seq (.ops [.bin 52 .eql 7 (kI 4), .asg 51 52]) (.cond 51 (.ops [.fa 53 0 3, .st 1 53 (.c (.nil 2))]) (.seq (.ops [.bin 55 .eql 7 (kI 5), .asg 54 55]) (.cond 54 (.block 1 acsL16Draw_L1) .skip)))))))))))))) acsL16Draw_J0)))
theorem trsL16Draw : trFn Tryd.prog 11 = some (acsL16Draw, [.ld 0 1 true 2], 80) := by kernel_rfl
def qsL16Draw (r : GCatalog × GL1Cur) : Exit → St → Prop := retQ [.ld 0 1 true 2] fun x b => x = (fun (y : GCatalog × GL1Cur) => (vGCatalog y.1)) r ∧ bxHas ((fun (y : GCatalog × GL1Cur) => [(1000000, bGL1Cur y.2)]) r) b
def qsL16Draw_0 (r : GCatalog × GL1Cur) : Exit → St → Prop := (thenK (wkK (avc Tryd.prog acsL16Draw_J0 (qsL16Draw r))) (qsL16Draw r))
def qsL16Draw_1 (r : GCatalog × GL1Cur) : Exit → St → Prop := (blockK 0 (qsL16Draw_0 r))
def qsL16Draw_2 (r : GCatalog × GL1Cur) : Exit → St → Prop := (blockK 1 (qsL16Draw_1 r))
def stsL16Draw_J0 (b3_0 : (List GTable)) (b1000000_0 : (List Int)) (b1000000_1 : Int) (b1000000_2 : Int) : St := ⟨[(2, (.ptr 2 0)), (3, (.ptr 3 0))], [(2, [(.nil 2)]), (3, bGCatalog (GCatalog.mk b3_0)), (1000000, bGL1Cur (GL1Cur.mk b1000000_0 b1000000_1 b1000000_2))]⟩
abbrev mosL16Draw_J0 (b3_0 : (List GTable)) (b1000000_0 : (List Int)) (b1000000_1 : Int) (b1000000_2 : Int) (r : GCatalog × GL1Cur) : Prop := avc Tryd.prog acsL16Draw_J0 (qsL16Draw r) (stsL16Draw_J0 b3_0 b1000000_0 b1000000_1 b1000000_2)
def stsL16Draw_L1 (b1000000_0_12 : (List Int)) (b1000000_1_13 : Int) (b1000000_2_14 : Int) (b60092000_0 : (List GTable)) : St := ⟨[(0, (.ptr 1000000 0)), (2, (.ptr 2 0)), (3, (.ptr 3 0))], [(2, [(.nil 2)]), (3, [(.tre 60092000)]), (1000000, bGL1Cur (GL1Cur.mk b1000000_0_12 b1000000_1_13 b1000000_2_14)), (60092000, [(.trc 2 (b60092000_0.map cGTable))])]⟩
abbrev mosL16Draw_L1 (b1000000_0_12 : (List Int)) (b1000000_1_13 : Int) (b1000000_2_14 : Int) (b60092000_0 : (List GTable)) (r : GCatalog × GL1Cur) : Prop := avc Tryd.prog acsL16Draw_L1 (qsL16Draw_2 r) (stsL16Draw_L1 b1000000_0_12 b1000000_1_13 b1000000_2_14 b60092000_0)
def acsL2Any : AC := (.seq (.ops [.asg 2 (.c (.d (.s (bs []))))]) (.seq (.seq (.ops [.mv 3 0, .call (some 4) 29 [3, (kI 6)]]) (.block 0 (.seq (.ops [.bin 6 .eql 4 (kI 0), .asg 5 6]) (.cond 5 (.seq (.ops [.mv 7 0, .bsl 8 9 1 [(.c (.d (.s (bs [])))), (.c (.d (.s (bs [97, 98, 99, 100, 101, 102, 103, 104, 105, 106, 107, 108, 109, 110, 111, 112, 113, 114, 115, 116])))), (.c (.d (.s (bs [97, 98, 99, 100, 101, 102, 103, 104, 105, 106, 107, 108, 109, 110, 111, 112, 113, 114, 115, 116, 117])))), (.c (.d (.s (bs [108, 105, 109, 105, 116])))), (.c (.d (.s (bs [76, 73, 77, 73, 84, 83])))), (.c (.d (.s (bs [65, 83, 99])))), (.c (.d (.s (bs [57])))), (.c (.d (.s (bs [97, 57])))), (.c (.d (.s (bs [195, 169]))))], .call (some 9) 42 [7, 8], .asg 2 9]) .ret) (.seq (.ops [.bin 11 .eql 4 (kI 1), .asg 10 11]) (.cond 10 (.seq (.ops [.call (some 12) 47 [], .mv 13 0, .call (some 14) 29 [13, (kI 29)], .ia 15 1 12 14, .ld 16 1 false 15, .asg 2 16]) .ret) (.seq (.ops [.bin 18 .eql 4 (kI 2), .asg 17 18]) (.cond 17 (.seq (.ops [.mv 19 0, .mv 20 0, .call (some 21) 29 [20, (kI 5)], .call (some 22) 48 [19, 21], .cbs 23 22, .asg 2 23]) .ret) .skip)))))))) (.seq (.ops [.mv 24 0, .call (some 25) 45 [24], .asg 2 25]) .ret)))
theorem trsL2Any : trFn Tryd.prog 30 = some (acsL2Any, [.mv 0 2], 26) := by kernel_rfl
def qsL2Any (r : (List UInt8) × GL1Cur) : Exit → St → Prop := retQ [.mv 0 2] fun x b => x = (fun (y : (List UInt8) × GL1Cur) => (vS y.1)) r ∧ bxHas ((fun (y : (List UInt8) × GL1Cur) => [(1000000, bGL1Cur y.2)]) r) b
def acsL1Bytes_L0 : AC := (.loop (.seq (.seq (.ops [.mv 8 6, .mv 9 1, .bin 10 .lss 8 9]) (.cond 10 .skip (.exit 0))) (.seq (.block 1 (.ops [.mv 13 5, .mv 14 0, .call (some 15) 46 [14], .cvi 16 .u8 15, .bsl 17 5 1 [16], .app 18 5 1 1 13 17, .asg 5 18])) (.ops [.mv 11 6, .bin 12 .add 11 (kI 1), .asg 6 12]))))
def ccsL1Bytes_0 : AC := (.seq (.ops [.mv 19 5, .asg 4 19]) .ret)
def acsL1Bytes : AC := (.seq (.ops [.asg 4 (.c (.nil 1))]) (.seq (.ops [.bsl 7 5 1 [], .asg 5 7]) (.seq (.seq (.ops [.asg 6 (kI 0)]) (.block 0 acsL1Bytes_L0)) ccsL1Bytes_0)))
theorem trsL1Bytes : trFn Tryd.prog 48 = some (acsL1Bytes, [.mv 0 4], 20) := by kernel_rfl
def qsL1Bytes (r : (List Int) × GL1Cur) : Exit → St → Prop := retQ [.mv 0 4] fun x b => x = (fun (y : (List Int) × GL1Cur) => (.osl 2000000 5 1 (y.1.map cU8))) r ∧ bxHas ((fun (y : (List Int) × GL1Cur) => [(1000000, bGL1Cur y.2)]) r) b
def qsL1Bytes_0 (r : (List Int) × GL1Cur) : Exit → St → Prop := (thenK (wkK (avc Tryd.prog ccsL1Bytes_0 (qsL1Bytes r))) (qsL1Bytes r))
def qsL1Bytes_1 (r : (List Int) × GL1Cur) : Exit → St → Prop := (blockK 0 (qsL1Bytes_0 r))
def stsL1Bytes_L0 (p1 : Int) (x5 : (List Int)) (x6 : Int) (b1000000_0 : (List Int)) (b1000000_1 : Int) (b1000000_2 : Int) : St := ⟨[(0, (.ptr 1000000 0)), (1, (vI p1)), (5, (.osl 5 5 1 (x5.map cU8))), (6, (vI x6))], [(1000000, bGL1Cur (GL1Cur.mk b1000000_0 b1000000_1 b1000000_2))]⟩
abbrev mosL1Bytes_L0 (p1 : Int) (x5 : (List Int)) (x6 : Int) (b1000000_0 : (List Int)) (b1000000_1 : Int) (b1000000_2 : Int) (r : (List Int) × GL1Cur) : Prop := avc Tryd.prog acsL1Bytes_L0 (qsL1Bytes_1 r) (stsL1Bytes_L0 p1 x5 x6 b1000000_0 b1000000_1 b1000000_2)
def acsL1Byte_J0 : AC := (.seq (.ops [.mv 57 3, .asg 2 57]) .ret)
def acsL1Byte : AC := (.seq (.ops [.asg 2 (kI 0)]) (.seq (.ops [.mv 4 0, .mv 5 0, .nck 6 5, .fa 7 2 6, .ld 8 1 false 7, .bin 9 .mul 8 (kI 6364136223846793005), .bin 10 .add 9 (kI 1442695040888963407), .nck 11 4, .fa 12 2 11, .st 1 12 10]) (.seq (.dops [[], [0], [1], [2], [3], [], [5], [6], [7], [8], [4, 9], [10], [11, 0, 1, 2, 3, 4, 5, 6, 7, 8, 9, 10, 11]] [.mv 13 0, .nck 14 13, .fa 15 2 14, .ld 16 1 false 15, .bin 17 .shr 16 (.c (.d (.i .u64 33))), .mv 18 0, .nck 19 18, .fa 20 2 19, .ld 21 1 false 20, .bin 22 .shr 21 (.c (.d (.i .u64 45))), .bin 23 .xor 17 22, .bin 24 .and 23 (kI 255), .asg 3 24]) (.seq (.seq (.dops [[], [0], [1], [2], [], [4], [5], [6], [7], [3, 8]] [.mv 25 0, .nck 26 25, .fa 27 1 26, .ld 28 1 false 27, .mv 29 0, .nck 30 29, .fa 31 0 30, .ld 32 1 false 31, .len 33 32, .bin 34 .lss 28 33]) (.cond 34 (.seq (.dops [[], [], [1], [2], [3], [], [5], [6], [7], [4, 8], [9], [10], [0, 11], [12], [13, 0, 1, 2, 3, 4, 5, 6, 7, 8, 9, 10, 11, 12, 13]] [.mv 35 3, .mv 36 0, .nck 37 36, .fa 38 0 37, .ld 39 1 false 38, .mv 40 0, .nck 41 40, .fa 42 1 41, .ld 43 1 false 42, .ia 44 1 39 43, .ld 45 1 false 44, .cvi 46 .i64 45, .bin 47 .add 35 46, .bin 48 .and 47 (kI 255), .asg 3 48]) (.ops [.mv 49 0, .mv 50 0, .nck 51 50, .fa 52 1 51, .ld 53 1 false 52, .bin 54 .add 53 (kI 1), .nck 55 49, .fa 56 1 55, .st 1 56 54])) .skip)) acsL1Byte_J0))))
theorem trsL1Byte : trFn Tryd.prog 46 = some (acsL1Byte, [.mv 0 2], 58) := by kernel_rfl
def qsL1Byte (r : Int × GL1Cur) : Exit → St → Prop := retQ [.mv 0 2] fun x b => x = (fun (y : Int × GL1Cur) => (vI y.1)) r ∧ bxHas ((fun (y : Int × GL1Cur) => [(1000000, bGL1Cur y.2)]) r) b
def stsL1Byte_J0 (p0 : GL1Cur) (x3 : Int) (b1000000_1 : Int) : St := ⟨[(3, (vI x3))], [(1000000, bGL1Cur (GL1Cur.mk p0.b b1000000_1 (IntKind.wrap .i64 ((IntKind.wrap .i64 (p0.h * 6364136223846793005)) + 1442695040888963407))))]⟩
abbrev mosL1Byte_J0 (p0 : GL1Cur) (x3 : Int) (b1000000_1 : Int) (r : Int × GL1Cur) : Prop := avc Tryd.prog acsL1Byte_J0 (qsL1Byte r) (stsL1Byte_J0 p0 x3 b1000000_1)
def acsL2Words : AC := (.seq (.ops [.asg 0 (.c (.nil 1))]) (.seq (.ops [.bsl 1 9 1 [(.c (.d (.s (bs [])))), (.c (.d (.s (bs [83, 69, 76, 69, 67, 84])))), (.c (.d (.s (bs [68, 73, 83, 84, 73, 78, 67, 84])))), (.c (.d (.s (bs [70, 82, 79, 77])))), (.c (.d (.s (bs [74, 79, 73, 78])))), (.c (.d (.s (bs [79, 78])))), (.c (.d (.s (bs [87, 72, 69, 82, 69])))), (.c (.d (.s (bs [79, 82, 68, 69, 82])))), (.c (.d (.s (bs [66, 89])))), (.c (.d (.s (bs [65, 83, 67])))), (.c (.d (.s (bs [68, 69, 83, 67])))), (.c (.d (.s (bs [76, 73, 77, 73, 84])))), (.c (.d (.s (bs [65, 83])))), (.c (.d (.s (bs [65, 78, 68])))), (.c (.d (.s (bs [79, 82])))), (.c (.d (.s (bs [78, 79, 84])))), (.c (.d (.s (bs [73, 83])))), (.c (.d (.s (bs [73, 78])))), (.c (.d (.s (bs [66, 69, 84, 87, 69, 69, 78])))), (.c (.d (.s (bs [69, 88, 73, 83, 84, 83])))), (.c (.d (.s (bs [78, 85, 76, 76])))), (.c (.d (.s (bs [84, 82, 85, 69])))), (.c (.d (.s (bs [70, 65, 76, 83, 69])))), (.c (.d (.s (bs [73, 78, 83, 69, 82, 84])))), (.c (.d (.s (bs [73, 78, 84, 79])))), (.c (.d (.s (bs [86, 65, 76, 85, 69, 83])))), (.c (.d (.s (bs [85, 80, 68, 65, 84, 69])))), (.c (.d (.s (bs [83, 69, 84])))), (.c (.d (.s (bs [68, 69, 76, 69, 84, 69]))))], .asg 0 1]) .ret))
theorem trsL2Words : trFn Tryd.prog 47 = some (acsL2Words, [.mv 0 0], 2) := by kernel_rfl
def qsL2Words (r : (List (List UInt8))) : Exit → St → Prop := retQ [.mv 0 0] fun x b => x = (fun (y : (List (List UInt8))) => (.osl 2000000 9 1 (y.map cStr))) r ∧ bxHas ((fun (y : (List (List UInt8))) => []) r) b
def acsL1Below : AC := (.seq (.ops [.asg 4 (kI 0)]) (.seq (.seq (.ops [.mv 9 1, .bin 10 .leq 9 (kI 0)]) (.cond 10 (.seq (.ops [.asg 4 (kI 0)]) .ret) .skip)) (.seq (.seq (.ops [.mv 11 1, .bin 12 .leq 11 (kI 256)]) (.cond 12 (.seq (.ops [.mv 13 0, .call (some 14) 46 [13], .mv 15 1, .bin 16 .rem 14 15, .asg 4 16]) .ret) .skip)) (.seq (.ops [.mv 17 0, .call (some 18) 46 [17], .asg 5 18]) (.seq (.ops [.mv 19 0, .call (some 20) 46 [19], .asg 6 20]) (.seq (.ops [.mv 21 0, .call (some 22) 46 [21], .asg 7 22]) (.seq (.ops [.mv 23 0, .call (some 24) 46 [23], .asg 8 24]) (.seq (.ops [.mv 25 5, .bin 26 .mul 25 (kI 16777216), .mv 27 6, .bin 28 .mul 27 (kI 65536), .bin 29 .add 26 28, .mv 30 7, .bin 31 .mul 30 (kI 256), .bin 32 .add 29 31, .mv 33 8, .bin 34 .add 32 33, .mv 35 1, .bin 36 .rem 34 35, .asg 4 36]) .ret))))))))
theorem trsL1Below : trFn Tryd.prog 29 = some (acsL1Below, [.mv 0 4], 37) := by kernel_rfl
def qsL1Below (r : Int × GL1Cur) : Exit → St → Prop := retQ [.mv 0 4] fun x b => x = (fun (y : Int × GL1Cur) => (vI y.1)) r ∧ bxHas ((fun (y : Int × GL1Cur) => [(1000000, bGL1Cur y.2)]) r) b
def acsL2Name : AC := (.seq (.ops [.asg 2 (.c (.d (.s (bs []))))]) (.seq (.seq (.ops [.mv 3 0, .call (some 4) 44 [3, (kI 6)]]) (.cond 4 (.seq (.ops [.mv 5 0, .bsl 6 9 1 [(.c (.d (.s (bs [97, 32, 98])))), (.c (.d (.s (bs [102, 114, 111, 109])))), (.c (.d (.s (bs [83, 101, 108, 101, 99, 116])))), (.c (.d (.s (bs [49, 120])))), (.c (.d (.s (bs [113, 34, 113])))), (.c (.d (.s (bs [0])))), (.c (.d (.s (bs [34])))), (.c (.d (.s (bs [105, 116, 39, 115])))), (.c (.d (.s (bs [120, 46, 121])))), (.c (.d (.s (bs [45]))))], .call (some 7) 42 [5, 6], .asg 2 7]) .ret) .skip)) (.seq (.ops [.mv 8 0, .bsl 9 9 1 [(.c (.d (.s (bs [97])))), (.c (.d (.s (bs [98])))), (.c (.d (.s (bs [99])))), (.c (.d (.s (bs [116])))), (.c (.d (.s (bs [117])))), (.c (.d (.s (bs [118])))), (.c (.d (.s (bs [105, 100])))), (.c (.d (.s (bs [110, 97, 109, 101])))), (.c (.d (.s (bs [65])))), (.c (.d (.s (bs [95, 120, 49]))))], .call (some 10) 42 [8, 9], .asg 2 10]) .ret)))
theorem trsL2Name : trFn Tryd.prog 45 = some (acsL2Name, [.mv 0 2], 11) := by kernel_rfl
def qsL2Name (r : (List UInt8) × GL1Cur) : Exit → St → Prop := retQ [.mv 0 2] fun x b => x = (fun (y : (List UInt8) × GL1Cur) => (vS y.1)) r ∧ bxHas ((fun (y : (List UInt8) × GL1Cur) => [(1000000, bGL1Cur y.2)]) r) b
def acsL1Once : AC := (.seq (.ops [.asg 4 (kB false)]) (.seq (.ops [.mv 5 0, .mv 6 1, .call (some 7) 29 [5, 6], .bin 8 .eql 7 (kI 0), .asg 4 8]) .ret))
theorem trsL1Once : trFn Tryd.prog 44 = some (acsL1Once, [.mv 0 4], 9) := by kernel_rfl
def qsL1Once (r : Bool × GL1Cur) : Exit → St → Prop := retQ [.mv 0 4] fun x b => x = (fun (y : Bool × GL1Cur) => (vB y.1)) r ∧ bxHas ((fun (y : Bool × GL1Cur) => [(1000000, bGL1Cur y.2)]) r) b
def acsL1Pick : AC := (.seq (.ops [.asg 4 (.c (.d (.s (bs []))))]) (.seq (.ops [.mv 5 1, .mv 6 0, .mv 7 1, .len 8 7, .call (some 9) 29 [6, 8], .ia 10 1 5 9, .ld 11 1 false 10, .asg 4 11]) .ret))
theorem trsL1Pick : trFn Tryd.prog 42 = some (acsL1Pick, [.mv 0 4], 12) := by kernel_rfl
def qsL1Pick (r : (List UInt8) × GL1Cur) : Exit → St → Prop := retQ [.mv 0 4] fun x b => x = (fun (y : (List UInt8) × GL1Cur) => (vS y.1)) r ∧ bxHas ((fun (y : (List UInt8) × GL1Cur) => [(1000000, bGL1Cur y.2)]) r) b
def acsL16Right_X_J2 : AC := (.seq (.ops [.ld 46 2 true 7, .fa 47 0 10, .ld 48 1 false 47, .call (some 49) 21 [46, 48], .bin 50 .lss 49 (kI 0)]) (.cond 50 (.ops [.fa 51 1 7, .ld 52 1 false 51, .ld 53 2 true 10, .bsl 54 55 2 [53], .app 55 55 2 24 52 54, .fa 56 1 7, .st 1 56 55]) .skip))
def acsL16Right_X_J3 : AC := (.ops [.mv 32 9, .bin 33 .add 32 (kI 1), .asg 9 33])
def acsL16Right_X_L1 : AC := (.loop (.seq (.seq (.ops [.mv 29 9, .mv 30 8, .bin 31 .lss 29 30]) (.cond 31 .skip (.exit 2))) (.seq (.block 3 (.seq (.ops [.mv 34 0, .bsl 35 9 1 [(.c (.d (.s (bs [97])))), (.c (.d (.s (bs [98])))), (.c (.d (.s (bs [99])))), (.c (.d (.s (bs [105, 100])))), (.c (.d (.s (bs [110, 97, 109, 101]))))], .call (some 36) 42 [34, 35], .mv 37 0, .bsl 38 3 1 [(kI 1), (kI 1), (kI 2), (kI 3)], .call (some 39) 43 [37, 38], .bld 40 [(.d (.s (bs []))), (.d (.i .i64 0))] [(0, 1, 36), (1, 1, 39)], .alc 10 [(.d (.s (bs []))), (.d (.i .i64 0))], .st 2 10 40]) (.seq (.seq (.ops [.mv 41 0, .call (some 42) 44 [41, (kI 20)]]) (.cond 42 (.ops [.mv 43 0, .call (some 44) 45 [43], .fa 45 0 10, .st 1 45 44]) .skip)) acsL16Right_X_J2))) acsL16Right_X_J3)))
def ccsL16Right_X_1 : AC := (.ops [.fa 57 0 3, .ld 58 1 false 57, .ld 59 2 true 7, .bsl 60 46 2 [59], .app 61 46 2 40 58 60, .fa 62 0 3, .st 1 62 61])
def ccsL16Right_X_2 : AC := (.ops [.mv 19 6, .bin 20 .add 19 (kI 1), .asg 6 20])
def acsL16Right_X_L0 : AC := (.loop (.seq (.seq (.ops [.mv 16 6, .mv 17 5, .bin 18 .lss 16 17]) (.cond 18 .skip (.exit 0))) (.seq (.block 1 (.seq (.ops [.mv 21 4, .mv 22 6, .ia 23 1 21 22, .ld 24 1 false 23, .bld 25 [(.d (.s (bs []))), (.nil 2)] [(0, 1, 24)], .alc 7 [(.d (.s (bs []))), (.nil 2)], .st 2 7 25]) (.seq (.ops [.mv 26 0, .call (some 27) 29 [26, (kI 3)], .bin 28 .add (kI 1) 27, .asg 8 28]) (.seq (.seq (.ops [.asg 9 (kI 0)]) (.block 2 acsL16Right_X_L1)) ccsL16Right_X_1)))) ccsL16Right_X_2)))
def ccsL16Right_X_0 : AC := (.seq (.ops [.ld 63 1 true 3, .st 1 2 63]) .ret)
def acsL16Right_X : AC := (.seq (.ops [.alc 2 [(.nil 2)]]) (.seq (.ops [.bld 11 [(.nil 2)] [], .alc 3 [(.nil 2)], .st 1 3 11]) (.seq (.ops [.bsl 12 9 1 [(.c (.d (.s (bs [116])))), (.c (.d (.s (bs [117])))), (.c (.d (.s (bs [118]))))], .asg 4 12]) (.seq (.ops [.mv 13 0, .call (some 14) 29 [13, (kI 3)], .bin 15 .add (kI 1) 14, .asg 5 15]) (.seq (.seq (.ops [.asg 6 (kI 0)]) (.block 0 acsL16Right_X_L0)) ccsL16Right_X_0)))))
theorem trsL16Right_X : trFn Tryd.prog 28 = some (acsL16Right_X, [.ld 0 1 true 2], 64) := by kernel_rfl
def qsL16Right_X (r : GCatalog × GL1Cur) : Exit → St → Prop := retQ [.ld 0 1 true 2] fun x b => x = (fun (y : GCatalog × GL1Cur) => (.agv [(.tre 10000000)])) r ∧ bxHas ((fun (y : GCatalog × GL1Cur) => [(10000000, [(.trc 2 (y.1.tables.map cGTable))]), (1000000, bGL1Cur y.2)]) r) b
def qsL16Right_X_0 (r : GCatalog × GL1Cur) : Exit → St → Prop := (thenK (wkK (avc Tryd.prog ccsL16Right_X_0 (qsL16Right_X r))) (qsL16Right_X r))
def qsL16Right_X_1 (r : GCatalog × GL1Cur) : Exit → St → Prop := (blockK 0 (qsL16Right_X_0 r))
def qsL16Right_X_2 (r : GCatalog × GL1Cur) : Exit → St → Prop := (thenK (avc Tryd.prog acsL16Right_X_L0 (qsL16Right_X_1 r)) (qsL16Right_X_1 r))
def qsL16Right_X_3 (r : GCatalog × GL1Cur) : Exit → St → Prop := (thenK (wkK (avc Tryd.prog ccsL16Right_X_2 (qsL16Right_X_2 r))) (qsL16Right_X_2 r))
def qsL16Right_X_4 (r : GCatalog × GL1Cur) : Exit → St → Prop := (blockK 1 (qsL16Right_X_3 r))
def qsL16Right_X_5 (r : GCatalog × GL1Cur) : Exit → St → Prop := (thenK (wkK (avc Tryd.prog ccsL16Right_X_1 (qsL16Right_X_4 r))) (qsL16Right_X_4 r))
def qsL16Right_X_6 (r : GCatalog × GL1Cur) : Exit → St → Prop := (blockK 2 (qsL16Right_X_5 r))
def qsL16Right_X_7 (r : GCatalog × GL1Cur) : Exit → St → Prop := (thenK (avc Tryd.prog acsL16Right_X_L1 (qsL16Right_X_6 r)) (qsL16Right_X_6 r))
def qsL16Right_X_8 (r : GCatalog × GL1Cur) : Exit → St → Prop := (thenK (wkK (avc Tryd.prog acsL16Right_X_J3 (qsL16Right_X_7 r))) (qsL16Right_X_7 r))
def qsL16Right_X_9 (r : GCatalog × GL1Cur) : Exit → St → Prop := (blockK 3 (qsL16Right_X_8 r))
def stsL16Right_X_L0 (y1 : Int × GL1Cur) (x6 : Int) (b1000000_0 : (List Int)) (b1000000_1 : Int) (b1000000_2 : Int) (b60023000_0 : (List GTable)) : St := ⟨[(0, (.ptr 1000000 0)), (2, (.ptr 2 0)), (3, (.ptr 3 0)), (4, (.osl 4 9 1 (([[116], [117], [118]] : List (List UInt8)).map cStr))), (5, (vI (IntKind.wrap .i64 (1 + y1.1)))), (6, (vI x6))], [(2, [(.nil 2)]), (3, [(.tre 60023000)]), (1000000, bGL1Cur (GL1Cur.mk b1000000_0 b1000000_1 b1000000_2)), (60023000, [(.trc 2 (b60023000_0.map cGTable))])]⟩
abbrev mosL16Right_X_L0 (y1 : Int × GL1Cur) (x6 : Int) (b1000000_0 : (List Int)) (b1000000_1 : Int) (b1000000_2 : Int) (b60023000_0 : (List GTable)) (r : GCatalog × GL1Cur) : Prop := avc Tryd.prog acsL16Right_X_L0 (qsL16Right_X_1 r) (stsL16Right_X_L0 y1 x6 b1000000_0 b1000000_1 b1000000_2 b60023000_0)
def stsL16Right_X_L1 (y1 : Int × GL1Cur) (x6 : Int) (y3 : Int × GL1Cur) (y2 : (List UInt8)) (b60023000_0 : (List GTable)) (x9 : Int) (kb1000000_0_4 : ((List Int) × (Int × (Int × (List GCol))))) : St := ⟨[(0, (.ptr 1000000 0)), (2, (.ptr 2 0)), (3, (.ptr 3 0)), (4, (.osl 4 9 1 (([[116], [117], [118]] : List (List UInt8)).map cStr))), (5, (vI (IntKind.wrap .i64 (1 + y1.1)))), (6, (vI x6)), (7, (.ptr 7 0)), (8, (vI (IntKind.wrap .i64 (1 + y3.1)))), (9, (vI x9))], [(2, [(.nil 2)]), (3, [(.tre 60055000)]), (7, [(vS y2), (.tre 60055001)]), (1000000, bGL1Cur (GL1Cur.mk kb1000000_0_4.1 kb1000000_0_4.2.1 kb1000000_0_4.2.2.1)), (60055001, [(.trc 2 (kb1000000_0_4.2.2.2.map cGCol))]), (60055000, [(.trc 2 (b60023000_0.map cGTable))])]⟩
abbrev mosL16Right_X_L1 (y1 : Int × GL1Cur) (x6 : Int) (y3 : Int × GL1Cur) (y2 : (List UInt8)) (b60023000_0 : (List GTable)) (x9 : Int) (kb1000000_0_4 : ((List Int) × (Int × (Int × (List GCol))))) (r : GCatalog × GL1Cur) : Prop := avc Tryd.prog acsL16Right_X_L1 (qsL16Right_X_6 r) (stsL16Right_X_L1 y1 x6 y3 y2 b60023000_0 x9 kb1000000_0_4)
def stsL16Right_X_J2 (y1 : Int × GL1Cur) (x6 : Int) (y3 : Int × GL1Cur) (x9 : Int) (y2 : (List UInt8)) (y8 : Int × GL1Cur) (b60055001_0 : (List GCol)) (kb60023000_0q : ((List GTable) × ((List UInt8) × ((List Int) × (Int × Int))))) : St := ⟨[(0, (.ptr 1000000 0)), (2, (.ptr 2 0)), (3, (.ptr 3 0)), (4, (.osl 4 9 1 (([[116], [117], [118]] : List (List UInt8)).map cStr))), (5, (vI (IntKind.wrap .i64 (1 + y1.1)))), (6, (vI x6)), (7, (.ptr 7 0)), (8, (vI (IntKind.wrap .i64 (1 + y3.1)))), (9, (vI x9)), (10, (.ptr 10 0))], [(2, [(.nil 2)]), (3, [(.tre 60090000)]), (7, [(vS y2), (.tre 60090001)]), (10, bGCol (GCol.mk kb60023000_0q.2.1 y8.1)), (1000000, bGL1Cur (GL1Cur.mk kb60023000_0q.2.2.1 kb60023000_0q.2.2.2.1 kb60023000_0q.2.2.2.2)), (60090001, [(.trc 2 (b60055001_0.map cGCol))]), (60090000, [(.trc 2 (kb60023000_0q.1.map cGTable))])]⟩
abbrev mosL16Right_X_J2 (y1 : Int × GL1Cur) (x6 : Int) (y3 : Int × GL1Cur) (x9 : Int) (y2 : (List UInt8)) (y8 : Int × GL1Cur) (b60055001_0 : (List GCol)) (kb60023000_0q : ((List GTable) × ((List UInt8) × ((List Int) × (Int × Int))))) (r : GCatalog × GL1Cur) : Prop := avc Tryd.prog acsL16Right_X_J2 (qsL16Right_X_9 r) (stsL16Right_X_J2 y1 x6 y3 x9 y2 y8 b60055001_0 kb60023000_0q)
def stsL16Right_X_J3 (y1 : Int × GL1Cur) (x6 : Int) (y3 : Int × GL1Cur) (x9 : Int) (y2 : (List UInt8)) (b1000000_0_11 : (List Int)) (kb1000000_1_12q : (Int × (Int × ((List GTable) × (List GCol))))) : St := ⟨[(0, (.ptr 1000000 0)), (2, (.ptr 2 0)), (3, (.ptr 3 0)), (4, (.osl 4 9 1 (([[116], [117], [118]] : List (List UInt8)).map cStr))), (5, (vI (IntKind.wrap .i64 (1 + y1.1)))), (6, (vI x6)), (7, (.ptr 7 0)), (8, (vI (IntKind.wrap .i64 (1 + y3.1)))), (9, (vI x9))], [(2, [(.nil 2)]), (3, [(.tre 60107000)]), (7, [(vS y2), (.tre 60107001)]), (1000000, bGL1Cur (GL1Cur.mk b1000000_0_11 kb1000000_1_12q.1 kb1000000_1_12q.2.1)), (60107001, [(.trc 2 (kb1000000_1_12q.2.2.2.map cGCol))]), (60107000, [(.trc 2 (kb1000000_1_12q.2.2.1.map cGTable))])]⟩
abbrev mosL16Right_X_J3 (y1 : Int × GL1Cur) (x6 : Int) (y3 : Int × GL1Cur) (x9 : Int) (y2 : (List UInt8)) (b1000000_0_11 : (List Int)) (kb1000000_1_12q : (Int × (Int × ((List GTable) × (List GCol))))) (r : GCatalog × GL1Cur) : Prop := avc Tryd.prog acsL16Right_X_J3 (qsL16Right_X_7 r) (stsL16Right_X_J3 y1 x6 y3 x9 y2 b1000000_0_11 kb1000000_1_12q)
def acsL1PickInt : AC := (.seq (.ops [.asg 4 (kI 0)]) (.seq (.ops [.mv 5 1, .mv 6 0, .mv 7 1, .len 8 7, .call (some 9) 29 [6, 8], .ia 10 1 5 9, .ld 11 1 false 10, .asg 4 11]) .ret))
theorem trsL1PickInt : trFn Tryd.prog 43 = some (acsL1PickInt, [.mv 0 4], 12) := by kernel_rfl
def qsL1PickInt (r : Int × GL1Cur) : Exit → St → Prop := retQ [.mv 0 4] fun x b => x = (fun (y : Int × GL1Cur) => (vI y.1)) r ∧ bxHas ((fun (y : Int × GL1Cur) => [(1000000, bGL1Cur y.2)]) r) b
def acsDigits_J1 : AC := (.seq (.ops [.mv 18 5, .bin 19 .add (kI 48) 18, .cvi 20 .u8 19, .bsl 21 5 1 [20], .cbs 22 21, .mv 23 4, .bin 24 .add 22 23, .asg 4 24]) (.ops [.mv 25 0, .bin 26 .quo 25 (kI 10), .asg 0 26]))
def acsDigits_L0 : AC := (.loop (.seq (.seq (.ops [.mv 10 0, .bin 11 .neq 10 (kI 0)]) (.cond 11 .skip (.exit 0))) (.block 1 (.seq (.ops [.mv 12 0, .bin 13 .rem 12 (kI 10), .asg 5 13]) (.seq (.seq (.ops [.mv 14 5, .bin 15 .lss 14 (kI 0)]) (.cond 15 (.ops [.mv 16 5, .bin 17 .sub (kI 0) 16, .asg 5 17]) .skip)) acsDigits_J1)))))
def ccsDigits_0 : AC := (.seq (.seq (.ops [.mv 27 3]) (.cond 27 (.seq (.ops [.mv 28 4, .bin 29 .add (.c (.d (.s (bs [45])))) 28, .asg 2 29]) .ret) .skip)) (.seq (.ops [.mv 30 4, .asg 2 30]) .ret))
def acsDigits : AC := (.seq (.ops [.asg 2 (.c (.d (.s (bs []))))]) (.seq (.seq (.ops [.mv 6 0, .bin 7 .eql 6 (kI 0)]) (.cond 7 (.seq (.ops [.asg 2 (.c (.d (.s (bs [48]))))]) .ret) .skip)) (.seq (.ops [.mv 8 0, .bin 9 .lss 8 (kI 0), .asg 3 9]) (.seq (.ops [.asg 4 (.c (.d (.s (bs []))))]) (.seq (.block 0 acsDigits_L0) ccsDigits_0)))))
theorem trsDigits : trFn Tryd.prog 31 = some (acsDigits, [.mv 0 2], 31) := by kernel_rfl
def qsDigits (r : (List UInt8)) : Exit → St → Prop := retQ [.mv 0 2] fun x _ => x = (fun y => (vS y)) r
def qsDigits_0 (r : (List UInt8)) : Exit → St → Prop := (thenK (wkK (avc Tryd.prog ccsDigits_0 (qsDigits r))) (qsDigits r))
def qsDigits_1 (r : (List UInt8)) : Exit → St → Prop := (blockK 0 (qsDigits_0 r))
def qsDigits_2 (r : (List UInt8)) : Exit → St → Prop := (thenK (avc Tryd.prog acsDigits_L0 (qsDigits_1 r)) (qsDigits_1 r))
def qsDigits_3 (r : (List UInt8)) : Exit → St → Prop := (blockK 1 (qsDigits_2 r))
def stsDigits_L0 (p0 : Int) (x0 : Int) (x4 : (List UInt8)) : St := ⟨[(0, (vI x0)), (3, (vB (decide (p0 < 0)))), (4, (vS x4))], []⟩
abbrev mosDigits_L0 (p0 : Int) (x0 : Int) (x4 : (List UInt8)) (r : (List UInt8)) : Prop := avc Tryd.prog acsDigits_L0 (qsDigits_1 r) (stsDigits_L0 p0 x0 x4)
def stsDigits_J1 (x0 : Int) (p0 : Int) (x4 : (List UInt8)) (x5 : Int) : St := ⟨[(0, (vI x0)), (3, (vB (decide (p0 < 0)))), (4, (vS x4)), (5, (vI x5))], []⟩
abbrev mosDigits_J1 (x0 : Int) (p0 : Int) (x4 : (List UInt8)) (x5 : Int) (r : (List UInt8)) : Prop := avc Tryd.prog acsDigits_J1 (qsDigits_3 r) (stsDigits_J1 x0 p0 x4 x5)
theorem koGCol (x : GCol) (h : ∀ d ∈ cGCol x, OkD d) : okGCol x := ⟨ko_s _ (ko_sub h 0 1), ko_i _ (ko_sub h 1 1)⟩
theorem koGTable (x : GTable) (h : ∀ d ∈ cGTable x, OkD d) : okGTable x := ⟨ko_s _ (ko_sub h 0 1), ko_l _ (fun y hy => koGCol y hy) (ko_sub h 1 1)⟩
theorem koGCatalog (x : GCatalog) (h : ∀ d ∈ cGCatalog x, OkD d) : okGCatalog x := ko_l _ (fun y hy => koGTable y hy) (ko_sub h 0 1)
theorem koGValue (x : GValue) (h : ∀ d ∈ cGValue x, OkD d) : okGValue x := ⟨ko_i _ (ko_sub h 0 1), ko_i _ (ko_sub h 1 1), ko_s _ (ko_sub h 2 1)⟩
theorem koGData (x : GData) (h : ∀ d ∈ cGData x, OkD d) : okGData x := ko_l _ (fun y hy => ko_l _ (fun y hy => koGValue y hy) hy) (ko_sub h 0 1)
theorem koGDb (x : GDb) (h : ∀ d ∈ cGDb x, OkD d) : okGDb x := ko_l _ (fun y hy => koGData y hy) (ko_sub h 0 1)
theorem koGL1Cur (x : GL1Cur) (h : ∀ d ∈ cGL1Cur x, OkD d) : okGL1Cur x := ⟨ko_l _ (fun y hy => ko_u8 _ hy) (ko_sub h 0 1), ko_i _ (ko_sub h 1 1), ko_i _ (ko_sub h 2 1)⟩
theorem de5 {l : List D} (h : WtC Tryd.prog 5 l) : ∃ x : Int, l = cU8 x := (wt_i h (k := .u8) (by kernel_rfl))
theorem de22 {l : List D} (h : WtC Tryd.prog 22 l) : ∃ x : (List Int), l = (cSl 1 cU8) x := (wt_sl h (e := 5) (n := 1) (c := cU8) (by kernel_rfl) (by kernel_rfl) fun x hx => de5 hx)
theorem OK_iColAt_1_x (p0 : GCol) (c0_0 : (List UInt8)) : FOkB Tryd.prog 57 [(vGCol p0), (.ptr 1000000 0)] [(1000000, [(vS c0_0)])] (fun (y : Bool) => (vB y)) (fun (y : Bool) => [(1000000, [(vS c0_0)])]) (iColAt_1_x p0 c0_0) := by
 intro r h
 rw [iColAt_1_x] at h
 refine ao triColAt_1_x (so (sx 2 (nx (so (sx 5 (nx (ri ?_)))))))
 injection h with h; subst h
 exact rb
theorem OKs_gSlices_IndexFunc_Simpl_Col_impl_Col_iColAt_1_L0 (p0 : (List GCol)) (c0_0 : (List UInt8)) : (∀ (x8 : Int) (r : Int), gSlices_IndexFunc_Simpl_Col_impl_Col_iColAt_1_L0 p0 c0_0 x8 = some r → mogSlices_IndexFunc_Simpl_Col_impl_Col_iColAt_1_L0 p0 c0_0 x8 r) := by
 refine gSlices_IndexFunc_Simpl_Col_impl_Col_iColAt_1_L0.partial_correctness p0 c0_0 (fun x8 r => mogSlices_IndexFunc_Simpl_Col_impl_Col_iColAt_1_L0 p0 c0_0 x8 r) ?_
 · intro F_gSlices_IndexFunc_Simpl_Col_impl_Col_iColAt_1_L0 OK_gSlices_IndexFunc_Simpl_Col_impl_Col_iColAt_1_L0 x8 r h
   delta mogSlices_IndexFunc_Simpl_Col_impl_Col_iColAt_1_L0 acgSlices_IndexFunc_Simpl_Col_impl_Col_iColAt_1_L0
   refine loop_unroll (so (sx 1 (nx (si ?_))))
   refine cd h (fun h => ?_) fun h => ?_
   refine ki (xi (si (bi (so (sx 2 (nx (so (sx 3 (iq h fun y1 h => (sx 1 (cgv ⟨[(1000000, 1000000)], [], [], [], [], [], [], [], []⟩ [(.ptr 1000000 0)] h (OK_iColAt_1_x _ _) fun y2 h => (nx ?_))))))))))))
   refine cd h (fun h => ?_) fun h => ?_
   refine so (sx 2 (nx (ri (br (tr (tr (br (tr ?_))))))))
   injection h with h; subst h
   exact rb
   exact ki (bn (xi (oi (sx 2 (ni (lbs (OK_gSlices_IndexFunc_Simpl_Col_impl_Col_iColAt_1_L0 _ _ h) (wr [] (es (es (es (es er_nil)))) (bs_ br_nil))))))))
   refine ei (te (te (bh (xi (so (sx 1 (nx (ri ?_))))))))
   injection h with h; subst h
   exact rb
theorem OK_gSlices_IndexFunc_Simpl_Col_impl_Col_iColAt_1_L0 (p0 : (List GCol)) (c0_0 : (List UInt8)) (x8 : Int) (r : Int) (h : gSlices_IndexFunc_Simpl_Col_impl_Col_iColAt_1_L0 p0 c0_0 x8 = some r) : mogSlices_IndexFunc_Simpl_Col_impl_Col_iColAt_1_L0 p0 c0_0 x8 r := (OKs_gSlices_IndexFunc_Simpl_Col_impl_Col_iColAt_1_L0 p0 c0_0) x8 r h
theorem OK_gSlices_IndexFunc_Simpl_Col_impl_Col_iColAt_1 (p0 : (List GCol)) (c0_0 : (List UInt8)) : FOkB Tryd.prog 56 [(.d (.sl 2 (p0.map cGCol))), (.fn 57 [(.ptr 1000000 0)])] [(1000000, [(vS c0_0)])] (fun (y : Int) => (vI y)) (fun (y : Int) => [(1000000, [(vS c0_0)])]) (gSlices_IndexFunc_Simpl_Col_impl_Col_iColAt_1 p0 c0_0) := by
 intro r h
 rw [gSlices_IndexFunc_Simpl_Col_impl_Col_iColAt_1] at h
 exact ao trgSlices_IndexFunc_Simpl_Col_impl_Col_iColAt_1 (so (sx 1 (nx (si (so (sx 1 (lq p0 (sx 1 (nx (bi (lgs (OK_gSlices_IndexFunc_Simpl_Col_impl_Col_iColAt_1_L0 _ _ _ _ h) (wr [] (es (es (es (es er_nil)))) (bs_ br_nil)))))))))))))
theorem OK_iColAt (p0 : GTable) (p1 : (List UInt8)) : FOk Tryd.prog 50 [(vGTable p0), (vS p1)] (fun y => (vI y)) (iColAt p0 p1) := by
 intro r h
 rw [iColAt] at h
 refine ao triColAt (so (sx 3 (nx (so (sx 3 (cg ⟨[(1000000, 3)], [], [], [], [], [], [], [], []⟩ h (OK_gSlices_IndexFunc_Simpl_Col_impl_Col_iColAt_1 _ _) fun y1 h => (sx 1 (nx (ri ?_)))))))))
 injection h with h; subst h
 exact rp
theorem OK_iNameOk (p0 : (List UInt8)) : FOk Tryd.prog 49 [(vS p0)] (fun y => (vB y)) (iNameOk p0) := by
 intro r h
 rw [iNameOk] at h
 refine ao triNameOk (so (sx 1 (nx (so (sx 4 (gq 0 (gq 1 (gq 1 (pkA h fun y1 h => (sx 1 (nx (ri ?_))))))))))))
 injection h with h; subst h
 exact rp
theorem OKs_iIsTable_L0 (p0 : GTable) : (∀ (x8 : Int) (r : Bool), iIsTable_L0 p0 x8 = some r → moiIsTable_L0 p0 x8 r) := by
 refine iIsTable_L0.partial_correctness p0 (fun x8 r => moiIsTable_L0 p0 x8 r) ?_
 · intro F_iIsTable_L0 OK_iIsTable_L0 x8 r h
   delta moiIsTable_L0 aciIsTable_L0
   refine loop_unroll (so (sx 1 (nx (si ?_))))
   refine cd h (fun h => ?_) fun h => ?_
   refine ki (xi (si (bi (so (sx 1 (iq h fun y1 h => (sx 4 (nx (so (sx 2 (cs h (OK_iNameOk _) fun y2 h => (sx 2 (gq 0 (gq 1 (gq 1 (pkO h fun y3 h => (sx 1 (gq 0 (gq 1 (gq 1 (pkO h fun y4 h => (sx 1 (gq 0 (gq 0 (gq 1 (gc 2 h (OK_iColAt _ _) fun y5 h => (gq 0 (gq 2 (pkO h fun y6 h => (nx ?_))))))))))))))))))))))))))))))
   refine cd h (fun h => ?_) fun h => ?_
   refine so (sx 1 (nx (ri (br (tr (tr (br (tr ?_))))))))
   injection h with h; subst h
   exact rp
   exact ki (bn (xi (oi (sx 2 (ni (lbs (OK_iIsTable_L0 _ _ h) (wr [] (es (es (es (es er_nil)))) (bs_ br_nil))))))))
   refine ei (te (te (bh (xi (so (sx 2 (cs h (OK_iNameOk _) fun y7 h => (sx 1 (gq 0 (gq 1 (glq 1 p0.cols (gq 1 (pkA h fun y8 h => ?_)))))))))))))
   let a1 : St := (stiIsTable_L0 p0 x8).p [(45, (vB y8)), (44, (vB y8)), (43, (.ite (gT y7) (vB (decide (1 ≤ (ln p0.cols)))))), (42, (.ite (gT y7) (vI (ln p0.cols)))), (41, (.ite (gT y7) (.d (.sl 2 (p0.cols.map cGCol))))), (40, (.ite (gT y7) (.ptr 1 1))), (39, (vB y7)), (38, (vB y7)), (37, (vS p0.name)), (36, (.ptr 1 0)), (9, (vB (decide (x8 < (ln p0.cols)))))]
   refine st 1 a1 (gq 0 (gq 1 (glq 1 p0.cols (gq 1 (pkA h fun y9 h => (sx 1 (nx (ri ?_))))))))
   injection h with h; subst h
   exact rp
theorem OK_iIsTable_L0 (p0 : GTable) (x8 : Int) (r : Bool) (h : iIsTable_L0 p0 x8 = some r) : moiIsTable_L0 p0 x8 r := (OKs_iIsTable_L0 p0) x8 r h
theorem OK_iIsTable (p0 : GTable) : FOk Tryd.prog 32 [(vGTable p0)] (fun y => (vB y)) (iIsTable p0) := by
 intro r h
 rw [iIsTable] at h
 refine ao triIsTable (so (sx 2 (nx (si (so (sx 2 (lq p0.cols ?_)))))))
 let a0 : St := ⟨[(8, (vI 0)), (7, (vI (ln p0.cols))), (6, (.d (.sl 2 (p0.cols.map cGCol)))), (5, (.ptr 1 1)), (2, (vB false)), (1, (.ptr 1 0)), (0, (vGTable p0))], [(1, bGTable p0)]⟩
 exact st 1 a0 (nx (bi (lgs (OK_iIsTable_L0 _ _ _ h) (wr [] (es (es (es (es er_nil)))) (bs_ br_nil)))))
theorem OK_iTableAt_1_x (p0 : GTable) (c0_0 : (List UInt8)) : FOkB Tryd.prog 52 [(vGTable p0), (.ptr 1000000 0)] [(1000000, [(vS c0_0)])] (fun (y : Bool) => (vB y)) (fun (y : Bool) => [(1000000, [(vS c0_0)])]) (iTableAt_1_x p0 c0_0) := by
 intro r h
 rw [iTableAt_1_x] at h
 refine ao triTableAt_1_x (so (sx 2 (nx (so (sx 5 (nx (ri ?_)))))))
 injection h with h; subst h
 exact rb
theorem OKs_gSlices_IndexFunc_Simpl_Table_impl_Table_iTableAt_1_L0 (p0 : (List GTable)) (c0_0 : (List UInt8)) : (∀ (x8 : Int) (r : Int), gSlices_IndexFunc_Simpl_Table_impl_Table_iTableAt_1_L0 p0 c0_0 x8 = some r → mogSlices_IndexFunc_Simpl_Table_impl_Table_iTableAt_1_L0 p0 c0_0 x8 r) := by
 refine gSlices_IndexFunc_Simpl_Table_impl_Table_iTableAt_1_L0.partial_correctness p0 c0_0 (fun x8 r => mogSlices_IndexFunc_Simpl_Table_impl_Table_iTableAt_1_L0 p0 c0_0 x8 r) ?_
 · intro F_gSlices_IndexFunc_Simpl_Table_impl_Table_iTableAt_1_L0 OK_gSlices_IndexFunc_Simpl_Table_impl_Table_iTableAt_1_L0 x8 r h
   delta mogSlices_IndexFunc_Simpl_Table_impl_Table_iTableAt_1_L0 acgSlices_IndexFunc_Simpl_Table_impl_Table_iTableAt_1_L0
   refine loop_unroll (so (sx 1 (nx (si ?_))))
   refine cd h (fun h => ?_) fun h => ?_
   refine ki (xi (si (bi (so (sx 2 (nx (so (sx 3 (iq h fun y1 h => (sx 1 (cgv ⟨[(1000000, 1000000)], [], [], [], [], [], [], [], []⟩ [(.ptr 1000000 0)] h (OK_iTableAt_1_x _ _) fun y2 h => (nx ?_))))))))))))
   refine cd h (fun h => ?_) fun h => ?_
   refine so (sx 2 (nx (ri (br (tr (tr (br (tr ?_))))))))
   injection h with h; subst h
   exact rb
   exact ki (bn (xi (oi (sx 2 (ni (lbs (OK_gSlices_IndexFunc_Simpl_Table_impl_Table_iTableAt_1_L0 _ _ h) (wr [] (es (es (es (es er_nil)))) (bs_ br_nil))))))))
   refine ei (te (te (bh (xi (so (sx 1 (nx (ri ?_))))))))
   injection h with h; subst h
   exact rb
theorem OK_gSlices_IndexFunc_Simpl_Table_impl_Table_iTableAt_1_L0 (p0 : (List GTable)) (c0_0 : (List UInt8)) (x8 : Int) (r : Int) (h : gSlices_IndexFunc_Simpl_Table_impl_Table_iTableAt_1_L0 p0 c0_0 x8 = some r) : mogSlices_IndexFunc_Simpl_Table_impl_Table_iTableAt_1_L0 p0 c0_0 x8 r := (OKs_gSlices_IndexFunc_Simpl_Table_impl_Table_iTableAt_1_L0 p0 c0_0) x8 r h
theorem OK_gSlices_IndexFunc_Simpl_Table_impl_Table_iTableAt_1 (p0 : (List GTable)) (c0_0 : (List UInt8)) : FOkB Tryd.prog 51 [(.d (.sl 2 (p0.map cGTable))), (.fn 52 [(.ptr 1000000 0)])] [(1000000, [(vS c0_0)])] (fun (y : Int) => (vI y)) (fun (y : Int) => [(1000000, [(vS c0_0)])]) (gSlices_IndexFunc_Simpl_Table_impl_Table_iTableAt_1 p0 c0_0) := by
 intro r h
 rw [gSlices_IndexFunc_Simpl_Table_impl_Table_iTableAt_1] at h
 exact ao trgSlices_IndexFunc_Simpl_Table_impl_Table_iTableAt_1 (so (sx 1 (nx (si (so (sx 1 (lq p0 (sx 1 (nx (bi (lgs (OK_gSlices_IndexFunc_Simpl_Table_impl_Table_iTableAt_1_L0 _ _ _ _ h) (wr [] (es (es (es (es er_nil)))) (bs_ br_nil)))))))))))))
theorem OK_iTableAt (p0 : GCatalog) (p1 : (List UInt8)) : FOk Tryd.prog 33 [(vGCatalog p0), (vS p1)] (fun y => (vI y)) (iTableAt p0 p1) := by
 intro r h
 rw [iTableAt] at h
 refine ao triTableAt (so (sx 3 (nx (so (sx 3 (cg ⟨[(1000000, 3)], [], [], [], [], [], [], [], []⟩ h (OK_gSlices_IndexFunc_Simpl_Table_impl_Table_iTableAt_1 _ _) fun y1 h => (sx 1 (nx (ri ?_)))))))))
 injection h with h; subst h
 exact rp
theorem OKs_iCatalogOk_L0 (p0 : GCatalog) : (∀ (x8 : Int) (r : Bool), iCatalogOk_L0 p0 x8 = some r → moiCatalogOk_L0 p0 x8 r) := by
 refine iCatalogOk_L0.partial_correctness p0 (fun x8 r => moiCatalogOk_L0 p0 x8 r) ?_
 · intro F_iCatalogOk_L0 OK_iCatalogOk_L0 x8 r h
   delta moiCatalogOk_L0 aciCatalogOk_L0
   refine loop_unroll (so (sx 1 (nx (si ?_))))
   refine cd h (fun h => ?_) fun h => ?_
   refine ki (xi (si (bi (so (sx 1 (iq h fun y1 h => (sx 4 (nx (so (sx 1 (cs h (OK_iIsTable _) fun y2 h => (sx 2 (gq 0 (gq 0 (gq 1 (gc 2 h (OK_iTableAt _ _) fun y3 h => (gq 0 (gq 2 (pkO h fun y4 h => (nx ?_))))))))))))))))))))
   refine cd h (fun h => ?_) fun h => ?_
   refine so ?_
   let a0 : St := ⟨(2, (vB false)) :: (23, (vB y4)) :: (22, (.ite (true && ((!y2) == false)) (vB (!decide (y3 = x8))))) :: (21, (.ite (true && ((!y2) == false)) (vI x8))) :: (20, (.ite (true && ((!y2) == false)) (vI y3))) :: (19, (.ite (true && ((!y2) == false)) (vS y1.name))) :: (18, (.ite (true && ((!y2) == false)) (.ptr 4 0))) :: (17, (.ite (true && ((!y2) == false)) (vGCatalog p0))) :: (16, (vB (!y2))) :: (15, (vB (!y2))) :: (14, (vB y2)) :: (13, (vGTable y1)) :: (3, (vI x8)) :: (4, (.ptr 4 0)) :: (12, (vGTable y1)) :: (11, (.rp (cGTable y1))) :: (10, (vI x8)) :: (9, (vB (decide (x8 < (ln p0.tables))))) :: (stiCatalogOk_L0 p0 x8).env, [(4, bGTable y1), (1, bGCatalog p0)]⟩
   refine st 1 a0 (nx (ri (br (tr (tr (br (tr ?_)))))))
   injection h with h; subst h
   exact rp
   exact ki (bn (xi (oi (sx 2 (ni (lbs (OK_iCatalogOk_L0 _ _ h) (wr [] (es (es (es (es er_nil)))) (bs_ br_nil))))))))
   refine ei (te (te (bh (xi (so (sx 2 (lq p0.tables (sx 2 (nx (ri ?_))))))))))
   injection h with h; subst h
   exact rp
theorem OK_iCatalogOk_L0 (p0 : GCatalog) (x8 : Int) (r : Bool) (h : iCatalogOk_L0 p0 x8 = some r) : moiCatalogOk_L0 p0 x8 r := (OKs_iCatalogOk_L0 p0) x8 r h
theorem OK_iCatalogOk (p0 : GCatalog) : FOk Tryd.prog 13 [(vGCatalog p0)] (fun y => (vB y)) (iCatalogOk p0) := by
 intro r h
 rw [iCatalogOk] at h
 exact ao triCatalogOk (so (sx 2 (nx (si (so (sx 2 (lq p0.tables (sx 1 (nx (bi (lgs (OK_iCatalogOk_L0 _ _ _ h) (wr [] (es (es (es (es er_nil)))) (bs_ br_nil)))))))))))))
theorem OK_iValueOk (p0 : GValue) : FOk Tryd.prog 39 [(vGValue p0)] (fun y => (vB y)) (iValueOk p0) := by
 intro r h
 rw [iValueOk] at h
 refine ao triValueOk (so (sx 2 (nx (si (so (sx 2 (nx (bi (so (sx 2 (nx ?_)))))))))))
 refine cd h (fun h => ?_) fun h => ?_
 refine so (sx 4 (gq 0 (gq 1 (gq 1 (pkA h fun y1 h => (sx 1 (nx (ri (br (tr ?_))))))))))
 injection h with h; subst h
 exact rp
 refine so (sx 2 (nx ?_))
 refine cd h (fun h => ?_) fun h => ?_
 refine so (sx 4 (nx (ri (br (tr ?_)))))
 injection h with h; subst h
 exact rp
 refine so (sx 2 (nx ?_))
 refine cd h (fun h => ?_) fun h => ?_
 refine so (sx 4 (gq 0 (gq 1 (gq 1 (gq 1 (pkA h fun y2 h => (sx 1 (nx (ri (br (tr ?_)))))))))))
 injection h with h; subst h
 exact rp
 refine so (sx 2 (nx ?_))
 refine cd h (fun h => ?_) fun h => ?_
 refine so (sx 4 (gq 0 (gq 1 (gq 1 (pkO h fun y3 h => (sx 1 (gq 0 (gq 1 (gq 1 (pkA h fun y4 h => ?_))))))))))
 let a0 : St := ⟨[(2, (vB y4)), (45, (vB y4)), (44, (.ite (gT y3) (vB (decide (p0.text = []))))), (43, (.ite (gT y3) (vS p0.text))), (42, (.ite (gT y3) (.ptr 1 2))), (41, (vB y3)), (40, (vB y3)), (39, (.ite (true && ((decide (p0.num = 0)) == false)) (vB (decide (p0.num = 1))))), (38, (.ite (true && ((decide (p0.num = 0)) == false)) (vI p0.num))), (37, (.ite (true && ((decide (p0.num = 0)) == false)) (.ptr 1 1))), (36, (vB (decide (p0.num = 0)))), (35, (vB (decide (p0.num = 0)))), (34, (vI p0.num)), (33, (.ptr 1 1)), (31, (vB (decide (p0.kind = 3)))), (32, (vB (decide (p0.kind = 3)))), (20, (vB (decide (p0.kind = 2)))), (21, (vB (decide (p0.kind = 2)))), (15, (vB (decide (p0.kind = 1)))), (16, (vB (decide (p0.kind = 1)))), (5, (vB (decide (p0.kind = 0)))), (6, (vB (decide (p0.kind = 0)))), (4, (vI p0.kind)), (3, (.ptr 1 0)), (2, (vB false)), (1, (.ptr 1 0)), (0, (vGValue p0))], [(1, bGValue p0)]⟩
 refine st 1 a0 (nx (ri (br (tr ?_))))
 injection h with h; subst h
 exact rp
 refine ki (bn (xi (so (sx 1 (nx (ri ?_))))))
 injection h with h; subst h
 exact rp
theorem OK_iFitsType (p0 : GValue) (p1 : Int) : FOk Tryd.prog 35 [(vGValue p0), (vI p1)] (fun y => (vB y)) (iFitsType p0 p1) := by
 intro r h
 rw [iFitsType] at h
 refine ao triFitsType (so (sx 2 (nx (so (sx 1 (cs h (OK_iValueOk _) fun y1 h => (sx 1 (gq 0 (gq 1 (gq 1 (gq 1 (gq 0 (gq 1 (gq 0 (gq 2 ?_)))))))))))))))
 refine gv true y1 (fun (y : Bool) => (vB y)) h (fun y hy hc => vop_pickV hy (p := true) (q := ((true && (y1 == true)) && ((decide (p0.kind = 0)) == false))) (Eq.trans (b := ([(true && (y1 == true))] : List Bool).all id) (by kernel_rfl) (all_c hc rfl)) (by kernel_rfl) (by kernel_rfl) (by kernel_rfl) (fun _ => rfl) (fun hb => gc_f hc hb)) fun y2 h => (pkA h fun y3 h => (sx 1 (nx (ri ?_))))
 injection h with h; subst h
 exact rp
theorem OKs_iRowFits_L0 (p1 : (List Int)) (p0 : (List GValue)) : (∀ (x14 : Int) (r : Bool), iRowFits_L0 p1 p0 x14 = some r → moiRowFits_L0 p1 p0 x14 r) := by
 refine iRowFits_L0.partial_correctness p1 p0 (fun x14 r => moiRowFits_L0 p1 p0 x14 r) ?_
 · intro F_iRowFits_L0 OK_iRowFits_L0 x14 r h
   delta moiRowFits_L0 aciRowFits_L0
   refine loop_unroll (so (sx 1 (nx (si ?_))))
   refine cd h (fun h => ?_) fun h => ?_
   refine ki (xi (si (bi (so (sx 1 (iq h fun y1 h => (sx 4 (nx (si (dops_in (dsx 3 (diqf cI h fun y2 h => (dsx 1 (dcs h (OK_iFitsType _ _) fun y3 h => ?_))))))))))))))
   let a0 : St := ⟨(25, (vB (!y3))) :: (24, (vB y3)) :: (23, (vI y2)) :: (22, (.rp [(.i .i64 y2)])) :: (21, (vI x14)) :: (20, (.d (.sl 1 (p1.map cI)))) :: (19, (vGValue y1)) :: (5, (vI x14)) :: (6, (.ptr 6 0)) :: (18, (vGValue y1)) :: (17, (.rp (cGValue y1))) :: (16, (vI x14)) :: (15, (vB (decide (x14 < (ln p0))))) :: (stiRowFits_L0 p1 p0 x14).env, [(6, bGValue y1)]⟩
   refine dsts_ok 1 (s' := a0) (by kernel_rfl) (dnil_in (by kernel_rfl) (by kernel_rfl) (xi ?_))
   refine cd h (fun h => ?_) fun h => ?_
   refine so (sx 1 (nx (ri (br (tr (tr (br (tr ?_))))))))
   injection h with h; subst h
   exact rp
   exact ki (bn (xi (oi (sx 2 (ni (lbs (OK_iRowFits_L0 _ _ h) (wr [] (es (es (es (es er_nil)))) br_nil)))))))
   refine ei (te (te (bh (xi (so (sx 1 (nx (ri ?_))))))))
   injection h with h; subst h
   exact rp
theorem OK_iRowFits_L0 (p1 : (List Int)) (p0 : (List GValue)) (x14 : Int) (r : Bool) (h : iRowFits_L0 p1 p0 x14 = some r) : moiRowFits_L0 p1 p0 x14 r := (OKs_iRowFits_L0 p1 p0) x14 r h
theorem OK_iRowFits (p0 : (List GValue)) (p1 : (List Int)) : FOk Tryd.prog 17 [(.d (.sl 3 (p0.map cGValue))), (.d (.sl 1 (p1.map cI)))] (fun y => (vB y)) (iRowFits p0 p1) := by
 intro r h
 rw [iRowFits] at h
 refine ao triRowFits (so (sx 1 (nx (si (so (sx 1 (lq p0 (sx 1 (lqf cI p1 (sx 1 (nx ?_)))))))))))
 refine cd h (fun h => ?_) fun h => ?_
 refine so (sx 1 (nx (ri (tr ?_))))
 injection h with h; subst h
 exact rp
 exact ki (xi (si (so (sx 1 (lq p0 (sx 1 (nx (bi (lgs (OK_iRowFits_L0 _ _ _ _ h) (wr [] (es (es (es (es er_nil)))) br_nil))))))))))
theorem OK_iDbOk_1_x (p0 : (List GValue)) (c0_0 : (List Int)) : FOkB Tryd.prog 16 [(.d (.sl 3 (p0.map cGValue))), (.ptr 1000000 0)] [(1000000, [(.d (.sl 1 (c0_0.map cI)))])] (fun (y : Bool) => (vB y)) (fun (y : Bool) => [(1000000, [(.d (.sl 1 (c0_0.map cI)))])]) (iDbOk_1_x p0 c0_0) := by
 intro r h
 rw [iDbOk_1_x] at h
 refine ao triDbOk_1_x (so (sx 1 (nx (so (sx 2 (cs h (OK_iRowFits _ _) fun y1 h => (sx 2 (nx (ri ?_)))))))))
 injection h with h; subst h
 exact rb
theorem OKs_gSlices_IndexFunc_SSimpl_Value_Simpl_Value_iDbOk_1_L0 (p0 : (List (List GValue))) (c0_0 : (List Int)) : (∀ (x8 : Int) (r : Int), gSlices_IndexFunc_SSimpl_Value_Simpl_Value_iDbOk_1_L0 p0 c0_0 x8 = some r → mogSlices_IndexFunc_SSimpl_Value_Simpl_Value_iDbOk_1_L0 p0 c0_0 x8 r) := by
 refine gSlices_IndexFunc_SSimpl_Value_Simpl_Value_iDbOk_1_L0.partial_correctness p0 c0_0 (fun x8 r => mogSlices_IndexFunc_SSimpl_Value_Simpl_Value_iDbOk_1_L0 p0 c0_0 x8 r) ?_
 · intro F_gSlices_IndexFunc_SSimpl_Value_Simpl_Value_iDbOk_1_L0 OK_gSlices_IndexFunc_SSimpl_Value_Simpl_Value_iDbOk_1_L0 x8 r h
   delta mogSlices_IndexFunc_SSimpl_Value_Simpl_Value_iDbOk_1_L0 acgSlices_IndexFunc_SSimpl_Value_Simpl_Value_iDbOk_1_L0
   refine loop_unroll (so (sx 1 (nx (si ?_))))
   refine cd h (fun h => ?_) fun h => ?_
   refine ki (xi (si (bi (so (sx 2 (nx (so (sx 3 (iq h fun y1 h => (sx 1 (cgv ⟨[(1000000, 1000000)], [], [], [], [], [], [], [], []⟩ [(.ptr 1000000 0)] h (OK_iDbOk_1_x _ _) fun y2 h => (nx ?_))))))))))))
   refine cd h (fun h => ?_) fun h => ?_
   refine so (sx 2 (nx (ri (br (tr (tr (br (tr ?_))))))))
   injection h with h; subst h
   exact rb
   exact ki (bn (xi (oi (sx 2 (ni (lbs (OK_gSlices_IndexFunc_SSimpl_Value_Simpl_Value_iDbOk_1_L0 _ _ h) (wr [] (es (es (es (es er_nil)))) (bs_ br_nil))))))))
   refine ei (te (te (bh (xi (so (sx 1 (nx (ri ?_))))))))
   injection h with h; subst h
   exact rb
theorem OK_gSlices_IndexFunc_SSimpl_Value_Simpl_Value_iDbOk_1_L0 (p0 : (List (List GValue))) (c0_0 : (List Int)) (x8 : Int) (r : Int) (h : gSlices_IndexFunc_SSimpl_Value_Simpl_Value_iDbOk_1_L0 p0 c0_0 x8 = some r) : mogSlices_IndexFunc_SSimpl_Value_Simpl_Value_iDbOk_1_L0 p0 c0_0 x8 r := (OKs_gSlices_IndexFunc_SSimpl_Value_Simpl_Value_iDbOk_1_L0 p0 c0_0) x8 r h
theorem OK_gSlices_IndexFunc_SSimpl_Value_Simpl_Value_iDbOk_1 (p0 : (List (List GValue))) (c0_0 : (List Int)) : FOkB Tryd.prog 34 [(.d (.sl 1 (p0.map (cSl 3 cGValue)))), (.fn 16 [(.ptr 1000000 0)])] [(1000000, [(.d (.sl 1 (c0_0.map cI)))])] (fun (y : Int) => (vI y)) (fun (y : Int) => [(1000000, [(.d (.sl 1 (c0_0.map cI)))])]) (gSlices_IndexFunc_SSimpl_Value_Simpl_Value_iDbOk_1 p0 c0_0) := by
 intro r h
 rw [gSlices_IndexFunc_SSimpl_Value_Simpl_Value_iDbOk_1] at h
 exact ao trgSlices_IndexFunc_SSimpl_Value_Simpl_Value_iDbOk_1 (so (sx 1 (nx (si (so (sx 1 (lq p0 (sx 1 (nx (bi (lgs (OK_gSlices_IndexFunc_SSimpl_Value_Simpl_Value_iDbOk_1_L0 _ _ _ _ h) (wr [] (es (es (es (es er_nil)))) (bs_ br_nil)))))))))))))
theorem OK_gSlices_ContainsFunc_SSimpl_Value_Simpl_Value_iDbOk_1 (p0 : (List (List GValue))) (c0_0 : (List Int)) : FOkB Tryd.prog 15 [(.d (.sl 1 (p0.map (cSl 3 cGValue)))), (.fn 16 [(.ptr 1000000 0)])] [(1000000, [(.d (.sl 1 (c0_0.map cI)))])] (fun (y : Bool) => (vB y)) (fun (y : Bool) => [(1000000, [(.d (.sl 1 (c0_0.map cI)))])]) (gSlices_ContainsFunc_SSimpl_Value_Simpl_Value_iDbOk_1 p0 c0_0) := by
 intro r h
 rw [gSlices_ContainsFunc_SSimpl_Value_Simpl_Value_iDbOk_1] at h
 refine ao trgSlices_ContainsFunc_SSimpl_Value_Simpl_Value_iDbOk_1 (so (sx 1 (nx (so (sx 2 (cg ⟨[(1000000, 1000000)], [], [], [], [], [], [], [], []⟩ h (OK_gSlices_IndexFunc_SSimpl_Value_Simpl_Value_iDbOk_1 _ _) fun y1 h => (sx 2 (nx (ri ?_)))))))))
 injection h with h; subst h
 exact rb
theorem OKs_iTypesOf_L0 (p0 : GTable) : (∀ (x3 : (List Int)) (x10 : Int) (r : (List Int)), iTypesOf_L0 p0 x3 x10 = some r → moiTypesOf_L0 p0 x3 x10 r) := by
 refine iTypesOf_L0.partial_correctness p0 (fun x3 x10 r => moiTypesOf_L0 p0 x3 x10 r) ?_
 · intro F_iTypesOf_L0 OK_iTypesOf_L0 x3 x10 r h
   delta moiTypesOf_L0 aciTypesOf_L0
   refine loop_unroll (so (sx 1 (nx (si ?_))))
   refine cd h (fun h => ?_) fun h => ?_
   exact ki (xi (si (bi (so (iq h fun y1 h => (sx 3 (nx (oi (sx 3 (bsl_step (l := ([y1.type] : List Int)) (f := cI) (g := cI) (by kernel_rfl) (fun _ => rfl) (by kernel_rfl) (aq 3 cI h fun y2 h => (sx 1 (ni (bn (xi (oi (sx 2 (ni (lbs (OK_iTypesOf_L0 _ _ _ h) (wr [(3, .old 3)] (eo 3 (es (es (es er_nil)))) br_nil))))))))))))))))))))
   refine ei (te (te (bh (xi (so (sx 2 (nx (ret_wk (s' := ⟨[(2, (.osl 2000000 3 1 (x3.map cI)))], []⟩) (wr [(2000000, .old 2)] (eo 2 er_nil) br_nil) ?_))))))))
   injection h with h; subst h
   exact rb
theorem OK_iTypesOf_L0 (p0 : GTable) (x3 : (List Int)) (x10 : Int) (r : (List Int)) (h : iTypesOf_L0 p0 x3 x10 = some r) : moiTypesOf_L0 p0 x3 x10 r := (OKs_iTypesOf_L0 p0) x3 x10 r h
theorem OK_iTypesOf (p0 : GTable) : FOkB Tryd.prog 14 [(vGTable p0)] [] (fun (y : (List Int)) => (.osl 2000000 3 1 (y.map cI))) (fun (y : (List Int)) => []) (iTypesOf p0) := by
 intro r h
 rw [iTypesOf] at h
 exact ao triTypesOf (so (sx 2 (nx (so (bsl_step (l := ([] : List Int)) (f := cI) (g := cI) (by kernel_rfl) (fun _ => rfl) (by kernel_rfl) (sx 1 (nx (si (so (sx 2 (lq p0.cols (sx 1 (nx (bi (lgs (OK_iTypesOf_L0 _ _ _ _ h) (wr [(3, .old 3)] (eo 3 (es (es (es er_nil)))) br_nil))))))))))))))))
theorem OKs_iDbOk_L0 (p1 : GDb) (p0 : GCatalog) : (∀ (x23 : Int) (r : Bool), iDbOk_L0 p1 p0 x23 = some r → moiDbOk_L0 p1 p0 x23 r) := by
 refine iDbOk_L0.partial_correctness p1 p0 (fun x23 r => moiDbOk_L0 p1 p0 x23 r) ?_
 · intro F_iDbOk_L0 OK_iDbOk_L0 x23 r h
   delta moiDbOk_L0 aciDbOk_L0
   refine loop_unroll (so (sx 1 (nx (si ?_))))
   refine cd h (fun h => ?_) fun h => ?_
   refine ki (xi (si (bi (so (sx 1 (iq h fun y3 h => (sx 4 (nx (so (sx 3 (iq h fun y4 h => (sx 1 (cg ⟨[], [], [], [], [], [(2000000, 33)], [], [33], []⟩ h (OK_iTypesOf _) fun y5 h => (sx 2 (nx (so (sx 2 (lq y3.rows (sx 2 (gq 0 (gq 1 (gq 0 ?_))))))))))))))))))))))
   refine gcallg_step ⟨[(1000000, 7)], [], [], [], [], [], [], [33], []⟩ (p := true) (b := (decide (6 < (ln y3.rows)))) (m := gSlices_ContainsFunc_SSimpl_Value_Simpl_Value_iDbOk_1 y3.rows y5) (dflt := (default : Bool)) h (by kernel_rfl) (OK_gSlices_ContainsFunc_SSimpl_Value_Simpl_Value_iDbOk_1 _ _) (fun hc => by kernel_rfl) (by kernel_rfl) (by kernel_rfl) (by kernel_rfl) (fun y => by kernel_rfl) (by kernel_rfl) (fun hc => (Eq.trans (b := ([(true && ((decide (6 < (ln y3.rows))) == false)), (true && ((decide (6 < (ln y3.rows))) == false))] : List Bool).all id) (by kernel_rfl) (all_c hc (all_c hc rfl)))) (fun _ => rfl) fun y6 h => ?_
   refine pkO h fun y7 h => (nx ?_)
   refine cd h (fun h => ?_) fun h => ?_
   refine so ?_
   let a0 : St := ⟨(4, (vB false)) :: (43, (vB y7)) :: (42, (.ite (true && ((decide (6 < (ln y3.rows))) == false)) (vB y6))) :: (41, (.ite (true && ((decide (6 < (ln y3.rows))) == false)) (.fn 16 [(.ptr 7 0)]))) :: (40, (.ite (true && ((decide (6 < (ln y3.rows))) == false)) (.d (.sl 1 (y3.rows.map (cSl 3 cGValue)))))) :: (39, (.ite (true && ((decide (6 < (ln y3.rows))) == false)) (.ptr 6 0))) :: (38, (vB (decide (6 < (ln y3.rows))))) :: (37, (vB (decide (6 < (ln y3.rows))))) :: (36, (vI (ln y3.rows))) :: (35, (.d (.sl 1 (y3.rows.map (cSl 3 cGValue))))) :: (34, (.ptr 6 0)) :: (7, (.ptr 7 0)) :: (33, (.d (.sl 1 (y5.map cI)))) :: (32, (vGTable y4)) :: (31, (.rp (cGTable y4))) :: (30, (vI x23)) :: (29, (.d (.sl 2 (p0.tables.map cGTable)))) :: (28, (.ptr 2 0)) :: (5, (vI x23)) :: (6, (.ptr 6 0)) :: (27, (vGData y3)) :: (26, (.rp (cGData y3))) :: (25, (vI x23)) :: (24, (vB (decide (x23 < (ln p1.tables))))) :: (stiDbOk_L0 p1 p0 x23).env, [(7, [(.d (.sl 1 (y5.map cI)))]), (6, bGData y3), (2, bGCatalog p0)]⟩
   refine st 1 a0 (nx (ri (br (tr (tr (br (tr ?_)))))))
   injection h with h; subst h
   exact rp
   exact ki (bn (xi (oi (sx 2 (ni (lbs (OK_iDbOk_L0 _ _ h) (wr [] (es (es (es (es er_nil)))) (bs_ br_nil))))))))
   refine ei (te (te (bh (xi (so (sx 1 (nx (ri ?_))))))))
   injection h with h; subst h
   exact rp
theorem OK_iDbOk_L0 (p1 : GDb) (p0 : GCatalog) (x23 : Int) (r : Bool) (h : iDbOk_L0 p1 p0 x23 = some r) : moiDbOk_L0 p1 p0 x23 r := (OKs_iDbOk_L0 p1 p0) x23 r h
theorem OK_iDbOk (p0 : GCatalog) (p1 : GDb) : FOk Tryd.prog 7 [(vGCatalog p0), (vGDb p1)] (fun y => (vB y)) (iDbOk p0 p1) := by
 intro r h
 rw [iDbOk] at h
 refine ao triDbOk (so (sx 3 (nx (si (so (sx 1 (cs h (OK_iCatalogOk _) fun y1 h => (sx 2 (gq 0 (gq 1 (glq 1 p1.tables (gq 0 (gq 1 (glq 1 p0.tables (gq 2 (pkO h fun y2 h => (nx ?_)))))))))))))))))
 refine cd h (fun h => ?_) fun h => ?_
 refine so (sx 1 (nx (ri (tr ?_))))
 injection h with h; subst h
 exact rp
 exact ki (xi (si (so (sx 2 (lq p1.tables (sx 1 (nx (bi (lgs (OK_iDbOk_L0 _ _ _ _ h) (wr [] (es (es (es (es er_nil)))) (bs_ br_nil)))))))))))
theorem OK_iEmptyDb (p0 : GCatalog) : FOk Tryd.prog 6 [(vGCatalog p0)] (fun y => (vGDb y)) (iEmptyDb p0) := by
 intro r h
 rw [iEmptyDb] at h
 refine ao triEmptyDb (so (sx 2 (nx (so (sx 2 (lq p0.tables (mksT_step (k := .i64) (k' := .i64) (z := ((GData.mk ([] : List (List GValue))) : GData)) (f := cGData) h (by kernel_rfl) (by kernel_rfl) (by kernel_rfl) (by kernel_rfl) (by kernel_rfl) (fun _ => rfl) fun y1 h => (bldv_step (c := [(.tre 6)]) (by kernel_rfl) (by kernel_rfl) rfl (sx 1 (nx ?_))))))))))
 refine ret_wk (s' := ⟨[(2, (.ptr 2 0))], [(2, bGDb (GDb.mk y1))]⟩) (tw [.frz [6]] (wr [] (es er_nil) (br_cons (c0 := [(.d (.sl 1 (y1.map cGData)))]) (by kernel_rfl) (vrs_cons (vr_same (by kernel_rfl) (by kernel_rfl)) (vrs_nil)) br_nil))) ?_
 injection h with h; subst h
 exact rp
theorem OK_gStrings_Builder_String_x (c0_1 : (List Int)) : FOkB Tryd.prog 27 [(.ptr 1000000 0)] [(1000000, [(.bp 1000000 62), (.osl 6000001 5 1 (c0_1.map cU8))])] (fun (y : (List UInt8) × (List Int)) => (vS y.1)) (fun (y : (List UInt8) × (List Int)) => [(1000000, [(.bp 1000000 62), (.d (.sl 1 (y.2.map cU8)))])]) (gStrings_Builder_String_x c0_1) := by
 intro r h
 rw [gStrings_Builder_String_x] at h
 obtain ⟨y, hy, h⟩ := Option.bind_eq_some_iff.1 h
 injection h with h
 subst h
 exact acalls_bstr 1000000 6000001 c0_1 y hy (bstr_of 62 bstr_row_27 bstr_nil_27 bstr_noroom_27 bstr_room_27)
theorem OK_gStrings_Builder_copyCheck_x (c0_1 : (List Int)) : FOkB Tryd.prog 38 [(.ptr 1000000 0)] [(1000000, [(.bp 1000000 62), (.osl 6000001 5 1 (c0_1.map cU8))])] (fun (y : Unit) => (.tup [])) (fun (y : Unit) => [(1000000, [(.bp 1000000 62), (.osl 6000001 5 1 (c0_1.map cU8))])]) (gStrings_Builder_copyCheck_x c0_1) := by
 intro r _
 exact acalls_cc 1000000 [.osl 6000001 5 1 (c0_1.map cU8)] cc_used_38 cc_fresh_38_62 rfl
theorem OK_gStrings_Builder_WriteString_x (c0_1 : (List Int)) (p1 : (List UInt8)) : FOkB Tryd.prog 25 [(.ptr 1000000 0), (vS p1)] [(1000000, [(.bp 1000000 62), (.osl 6000001 5 1 (c0_1.map cU8))])] (fun (y : Int × (List Int)) => (.tup [(vI y.1), .top])) (fun (y : Int × (List Int)) => [(1000000, [(.bp 1000000 62), (.osl 6000001 5 1 (y.2.map cU8))])]) (gStrings_Builder_WriteString_x c0_1 p1) := by
 intro r h
 rw [gStrings_Builder_WriteString_x] at h
 refine ao trgStrings_Builder_WriteString_x (so (sx 2 (nx (so (sx 1 (cg ⟨[(1000000, 1000000)], [(6000001, 6000001)], [], [], [], [(6000001, 6000001)], [], [6000001], []⟩ h (OK_gStrings_Builder_copyCheck_x _) fun y1 h => (nx (so (sx 6 (aq 6000001 cU8 h fun y2 h => (sx 3 (nx (so (sx 4 (nx ?_)))))))))))))))
 refine ret_wk (s' := ⟨[(4, (vI (ln p1))), (5, .top)], [(1000000, [(.bp 1000000 62), (.osl 6000001 5 1 (y2.map cU8))])]⟩) (wr [(6000001, .old 14)] (es (es er_nil)) (br_cons (c0 := [(.bp 1000000 62), (.osl 14 5 1 (y2.map cU8))]) (by kernel_rfl) (vrs_cons (vr_same (by kernel_rfl) (by kernel_rfl)) (vrs_cons (vr_old (t := 14) (by kernel_rfl) (by kernel_rfl)) (vrs_nil))) br_nil)) ?_
 injection h with h; subst h
 exact rnb
theorem OK_gStrconv_Itoa (p0 : Int) : FOk Tryd.prog 54 [(vI p0)] (fun y => (vS y)) (gStrconv_Itoa p0) := by
 intro r h
 rw [gStrconv_Itoa] at h
 injection h with h
 subst h
 exact acalls_itoa (ρ := sh171_ren) sh171 (by kernel_rfl) (by kernel_rfl) (.head _) p0
theorem OK_iDigits (p0 : Int) : FOk Tryd.prog 40 [(vI p0)] (fun y => (vS y)) (iDigits p0) := by
 intro r h
 rw [iDigits] at h
 refine ao triDigits (so (sx 1 (nx (so (sx 1 (cs h (OK_gStrconv_Itoa _) fun y1 h => (sx 1 (nx (ri ?_)))))))))
 injection h with h; subst h
 exact rp
theorem OK_gStrings_ReplaceAll (p0 : (List UInt8)) (p1 : (List UInt8)) (p2 : (List UInt8)) : FOk Tryd.prog 59 [(vS p0), (vS p1), (vS p2)] (fun y => (vS y)) (gStrings_ReplaceAll p0 p1 p2) := by
 intro r h
 rw [gStrings_ReplaceAll] at h
 exact acalls_repl (ρ := sh155_ren) sh155 sh155_X (by kernel_rfl) (by kernel_rfl) (.tail _ (.head _)) p0 p1 p2 r h
theorem OK_iQuoted (p0 : (List UInt8)) (p1 : (List UInt8)) : FOk Tryd.prog 55 [(vS p0), (vS p1)] (fun y => (vS y)) (iQuoted p0 p1) := by
 intro r h
 rw [iQuoted] at h
 refine ao triQuoted (so (sx 1 (nx (so (sx 5 (vs (fun (y : (List UInt8)) => (vS y)) h (fun y hy => vop_cat (a := p1) (b := p1) hy (by kernel_rfl) (by kernel_rfl) (by kernel_rfl)) fun y1 h => (cs h (OK_gStrings_ReplaceAll _ _ _) fun y2 h => (vs (fun (y : (List UInt8)) => (vS y)) h (fun y hy => vop_cat (a := p1) (b := y2) hy (by kernel_rfl) (by kernel_rfl) (by kernel_rfl)) fun y3 h => (sx 1 ?_)))))))))
 refine vs (fun (y : (List UInt8)) => (vS y)) h (fun y hy => vop_cat (a := y3) (b := p1) hy (by kernel_rfl) (by kernel_rfl) (by kernel_rfl)) fun y4 h => (sx 1 (nx (ri ?_)))
 injection h with h; subst h
 exact rp
theorem OK_iQuoteText (p0 : (List UInt8)) : FOk Tryd.prog 41 [(vS p0)] (fun y => (vS y)) (iQuoteText p0) := by
 intro r h
 rw [iQuoteText] at h
 refine ao triQuoteText (so (sx 1 (nx (so (sx 1 (cs h (OK_iQuoted _ _) fun y1 h => (sx 1 (nx (ri ?_)))))))))
 injection h with h; subst h
 exact rp
theorem OK_iValueText (p0 : GValue) : FOk Tryd.prog 26 [(vGValue p0)] (fun y => (vS y)) (iValueText p0) := by
 intro r h
 rw [iValueText] at h
 refine ao triValueText (so (sx 2 (nx (si (so (sx 1 (cs h (OK_iValueOk _) fun y1 h => (sx 1 (nx ?_)))))))))
 refine cd h (fun h => ?_) fun h => ?_
 refine so (sx 1 (nx (ri (tr ?_))))
 injection h with h; subst h
 exact rp
 refine ki (xi (si (so (sx 2 (nx (bi (so (sx 2 (nx ?_)))))))))
 refine cd h (fun h => ?_) fun h => ?_
 refine so (sx 2 (cs h (OK_iDigits _) fun y2 h => (sx 1 (nx (ri (br (tr ?_)))))))
 injection h with h; subst h
 exact rp
 refine so (sx 2 (nx ?_))
 refine cd h (fun h => ?_) fun h => ?_
 refine so (sx 2 (cs h (OK_iQuoteText _) fun y3 h => (sx 1 (nx (ri (br (tr ?_)))))))
 injection h with h; subst h
 exact rp
 refine so (sx 2 (nx ?_))
 refine cd h (fun h => ?_) fun h => ?_
 refine si (so (sx 3 (nx ?_)))
 refine cd h (fun h => ?_) fun h => ?_
 refine so (sx 1 (nx (ri (tr (br (tr ?_))))))
 injection h with h; subst h
 exact rp
 refine ki (xi (so (sx 1 (nx (ri (br (tr ?_)))))))
 injection h with h; subst h
 exact rp
 refine ki (bn (xi (so (sx 1 (nx (ri ?_))))))
 injection h with h; subst h
 exact rp
theorem OKs_iRowsText_J2 (p0 : (List (List GValue))) : (∀ (x11 : Int) (y1 : (List GValue)) (x17 : Int) (y4 : GValue) (b3_1_6 : (List Int)) (r : (List UInt8)), iRowsText_J2 p0 x11 y1 x17 y4 b3_1_6 = some r → moiRowsText_J2 p0 x11 y1 x17 y4 b3_1_6 r) ∧ (∀ (x11 : Int) (y1 : (List GValue)) (x17 : Int) (b3_1_2 : (List Int)) (r : (List UInt8)), iRowsText_L1 p0 x11 y1 x17 b3_1_2 = some r → moiRowsText_L1 p0 x11 y1 x17 b3_1_2 r) ∧ (∀ (x11 : Int) (b3_1 : (List Int)) (r : (List UInt8)), iRowsText_L0 p0 x11 b3_1 = some r → moiRowsText_L0 p0 x11 b3_1 r) := by
 refine iRowsText_J2.mutual_partial_correctness p0 (fun x11 y1 x17 y4 b3_1_6 r => moiRowsText_J2 p0 x11 y1 x17 y4 b3_1_6 r) (fun x11 y1 x17 b3_1_2 r => moiRowsText_L1 p0 x11 y1 x17 b3_1_2 r) (fun x11 b3_1 r => moiRowsText_L0 p0 x11 b3_1 r) ?_ ?_ ?_
 · intro F_iRowsText_L1 OK_iRowsText_L1 x11 y1 x17 y4 b3_1_6 r h
   delta moiRowsText_J2 aciRowsText_J2
   refine oi (sx 1 (cs h (OK_iValueText _) fun y8 h => (cg ⟨[(1000000, 3)], [(6000001, 5062501)], [], [], [], [(6000001, 5062501)], [], [5062501], []⟩ h (OK_gStrings_Builder_WriteString_x _ _) fun y9 h => (ni (bn (xi (oi (sx 2 (ni ?_)))))))))
   exact lbs (OK_iRowsText_L1 _ _ _ _ _ h) (wr [(5072501, .old 5062501)] (es (es (es (es (es (es (es er_nil))))))) (br_cons (c0 := [(.bp 3 62), (.osl 5062501 5 1 (y9.2.map cU8))]) (by kernel_rfl) (vrs_cons (vr_same (by kernel_rfl) (by kernel_rfl)) (vrs_cons (vr_old (t := 5062501) (by kernel_rfl) (by kernel_rfl)) (vrs_nil))) br_nil))
 · intro F_iRowsText_J2 F_iRowsText_L0 OK_iRowsText_J2 OK_iRowsText_L0 x11 y1 x17 b3_1_2 r h
   delta moiRowsText_L1 aciRowsText_L1
   refine loop_unroll (so (sx 1 (nx (si ?_))))
   refine cd h (fun h => ?_) fun h => ?_
   refine ki (xi (si (bi (so (sx 1 (iq h fun y4 h => (sx 4 (nx (si (so (sx 2 (nx ?_))))))))))))
   refine cd h (fun h => ?_) fun h => ?_
   refine oi (cg ⟨[(1000000, 3)], [(6000001, 5072501)], [], [], [], [(6000001, 5072501)], [], [5072501], []⟩ h (OK_gStrings_Builder_WriteString_x _ _) fun y5 h => (ni ?_))
   exact nxs (OK_iRowsText_J2 _ _ _ _ _ _ h) (wr [(5062501, .old 5072501)] (es (es (es (es (es (es (es (es er_nil)))))))) (br_cons (c0 := [(.bp 3 62), (.osl 5072501 5 1 (y5.2.map cU8))]) (by kernel_rfl) (vrs_cons (vr_same (by kernel_rfl) (by kernel_rfl)) (vrs_cons (vr_old (t := 5072501) (by kernel_rfl) (by kernel_rfl)) (vrs_nil))) (bs_ br_nil)))
   refine ki ?_
   exact nxs (OK_iRowsText_J2 _ _ _ _ _ _ h) (wr [(5062501, .old 5072501)] (es (es (es (es (es (es (es (es er_nil)))))))) (br_cons (c0 := [(.bp 3 62), (.osl 5072501 5 1 (b3_1_2.map cU8))]) (by kernel_rfl) (vrs_cons (vr_same (by kernel_rfl) (by kernel_rfl)) (vrs_cons (vr_old (t := 5072501) (by kernel_rfl) (by kernel_rfl)) (vrs_nil))) (bs_ br_nil)))
   refine ei (te (te (bh (xi (oi (cg ⟨[(1000000, 3)], [(6000001, 5072501)], [], [], [], [(6000001, 5072501)], [], [5072501], []⟩ h (OK_gStrings_Builder_WriteString_x _ _) fun y7 h => (ni (bn (xi (oi (sx 2 (ni ?_))))))))))))
   exact lbs (OK_iRowsText_L0 _ _ _ h) (wr [(5072501, .old 5072501)] (es (es (es (es er_nil)))) (br_cons (c0 := [(.bp 3 62), (.osl 5072501 5 1 (y7.2.map cU8))]) (by kernel_rfl) (vrs_cons (vr_same (by kernel_rfl) (by kernel_rfl)) (vrs_cons (vr_old (t := 5072501) (by kernel_rfl) (by kernel_rfl)) (vrs_nil))) br_nil))
 · intro F_iRowsText_L1 OK_iRowsText_L1 x11 b3_1 r h
   delta moiRowsText_L0 aciRowsText_L0
   refine loop_unroll (so (sx 1 (nx (si ?_))))
   refine cd h (fun h => ?_) fun h => ?_
   refine ki (xi (si (bi (so (iq h fun y1 h => (sx 2 (nx (si (so (sx 1 (lq y1 (sx 1 (nx (bi ?_))))))))))))))
   exact lgs (OK_iRowsText_L1 _ _ _ _ _ h) (wr [(5072501, .old 5072501)] (es (es (es (es (es (es (es er_nil))))))) (br_cons (c0 := [(.bp 3 62), (.osl 5072501 5 1 (b3_1.map cU8))]) (by kernel_rfl) (vrs_cons (vr_same (by kernel_rfl) (by kernel_rfl)) (vrs_cons (vr_old (t := 5072501) (by kernel_rfl) (by kernel_rfl)) (vrs_nil))) br_nil))
   refine ei (te (te (bh (xi (so (cg ⟨[(1000000, 3)], [(6000001, 5072501)], [], [], [], [], [], [5072501], []⟩ h (OK_gStrings_Builder_String_x _) fun y3 h => (sx 1 (nx (ri ?_)))))))))
   injection h with h; subst h
   exact rp
theorem OK_iRowsText_J2 (p0 : (List (List GValue))) (x11 : Int) (y1 : (List GValue)) (x17 : Int) (y4 : GValue) (b3_1_6 : (List Int)) (r : (List UInt8)) (h : iRowsText_J2 p0 x11 y1 x17 y4 b3_1_6 = some r) : moiRowsText_J2 p0 x11 y1 x17 y4 b3_1_6 r := (OKs_iRowsText_J2 p0).1 x11 y1 x17 y4 b3_1_6 r h
theorem OK_iRowsText_L1 (p0 : (List (List GValue))) (x11 : Int) (y1 : (List GValue)) (x17 : Int) (b3_1_2 : (List Int)) (r : (List UInt8)) (h : iRowsText_L1 p0 x11 y1 x17 b3_1_2 = some r) : moiRowsText_L1 p0 x11 y1 x17 b3_1_2 r := (OKs_iRowsText_J2 p0).2.1 x11 y1 x17 b3_1_2 r h
theorem OK_iRowsText_L0 (p0 : (List (List GValue))) (x11 : Int) (b3_1 : (List Int)) (r : (List UInt8)) (h : iRowsText_L0 p0 x11 b3_1 = some r) : moiRowsText_L0 p0 x11 b3_1 r := (OKs_iRowsText_J2 p0).2.2 x11 b3_1 r h
theorem OK_iRowsText (p0 : (List (List GValue))) : FOk Tryd.prog 10 [(.d (.sl 1 (p0.map (cSl 3 cGValue))))] (fun y => (vS y)) (iRowsText p0) := by
 intro r h
 rw [iRowsText] at h
 refine ao triRowsText (so (sx 1 (nx (so (bldv_step (c := [.np, (.nil 1)]) (by kernel_rfl) (by kernel_rfl) rfl (sx 2 (nx (si (so (sx 1 (lq p0 ?_)))))))))))
 let a0 : St := ⟨[(11, (vI 0)), (10, (vI (ln p0))), (9, (.d (.sl 1 (p0.map (cSl 3 cGValue))))), (3, (.ptr 3 0)), (8, (.agv [.np, (.nil 1)])), (2, (vS [])), (0, (.d (.sl 1 (p0.map (cSl 3 cGValue)))))], [(3, [(.bp 3 62), (.nil 1)])]⟩
 exact st 1 a0 (nx (bi (lgs (OK_iRowsText_L0 _ _ _ _ h) (wr [(5072501, .new 5 1)] (es (es (es (es er_nil)))) (br_cons (c0 := [(.bp 3 62), (.nil 1)]) (by kernel_rfl) (vrs_cons (vr_same (by kernel_rfl) (by kernel_rfl)) (vrs_cons (vr_new (by kernel_rfl) (by kernel_rfl)) (vrs_nil))) br_nil)))))
theorem OKs_gSlices_Equal_Simpl_Value_impl_Value_L0 (p0 : (List GValue)) (p1 : (List GValue)) : (∀ (x13 : Int) (r : Bool), gSlices_Equal_Simpl_Value_impl_Value_L0 p0 p1 x13 = some r → mogSlices_Equal_Simpl_Value_impl_Value_L0 p0 p1 x13 r) := by
 refine gSlices_Equal_Simpl_Value_impl_Value_L0.partial_correctness p0 p1 (fun x13 r => mogSlices_Equal_Simpl_Value_impl_Value_L0 p0 p1 x13 r) ?_
 · intro F_gSlices_Equal_Simpl_Value_impl_Value_L0 OK_gSlices_Equal_Simpl_Value_impl_Value_L0 x13 r h
   delta mogSlices_Equal_Simpl_Value_impl_Value_L0 acgSlices_Equal_Simpl_Value_impl_Value_L0
   refine loop_unroll (so (sx 1 (nx (si ?_))))
   refine cd h (fun h => ?_) fun h => ?_
   refine ki (xi (si (bi (so (sx 2 (nx (si (dops_in (dsx 2 (diq h fun y1 h => (dsx 3 (diq h fun y2 h => (dsx 2 (dnil_in (by kernel_rfl) (by kernel_rfl) (xi ?_)))))))))))))))
   refine cd h (fun h => ?_) fun h => ?_
   refine so (sx 1 (nx (ri (br (tr (tr (br (tr ?_))))))))
   injection h with h; subst h
   exact rp
   exact ki (bn (xi (oi (sx 2 (ni (lbs (OK_gSlices_Equal_Simpl_Value_impl_Value_L0 _ _ h) (wr [] (es (es (es (es er_nil)))) br_nil)))))))
   refine ei (te (te (bh (xi (so ?_)))))
   let a0 : St := (stgSlices_Equal_Simpl_Value_impl_Value_L0 p0 p1 x13).p [(4, (vB true)), (14, (vB (decide (x13 < (ln p0)))))]
   refine st 1 a0 (nx (ri ?_))
   injection h with h; subst h
   exact rp
theorem OK_gSlices_Equal_Simpl_Value_impl_Value_L0 (p0 : (List GValue)) (p1 : (List GValue)) (x13 : Int) (r : Bool) (h : gSlices_Equal_Simpl_Value_impl_Value_L0 p0 p1 x13 = some r) : mogSlices_Equal_Simpl_Value_impl_Value_L0 p0 p1 x13 r := (OKs_gSlices_Equal_Simpl_Value_impl_Value_L0 p0 p1) x13 r h
theorem OK_gSlices_Equal_Simpl_Value_impl_Value (p0 : (List GValue)) (p1 : (List GValue)) : FOk Tryd.prog 37 [(.d (.sl 3 (p0.map cGValue))), (.d (.sl 3 (p1.map cGValue)))] (fun y => (vB y)) (gSlices_Equal_Simpl_Value_impl_Value p0 p1) := by
 intro r h
 rw [gSlices_Equal_Simpl_Value_impl_Value] at h
 refine ao trgSlices_Equal_Simpl_Value_impl_Value (so (sx 1 (nx (si (so (sx 1 (lq p0 (sx 1 (lq p1 (sx 1 (nx ?_)))))))))))
 refine cd h (fun h => ?_) fun h => ?_
 refine so (sx 1 (nx (ri (tr ?_))))
 injection h with h; subst h
 exact rp
 exact ki (xi (si (so (sx 1 (lq p0 (sx 1 (nx (bi (lgs (OK_gSlices_Equal_Simpl_Value_impl_Value_L0 _ _ _ _ h) (wr [] (es (es (es (es er_nil)))) br_nil))))))))))
theorem OKs_gSlices_EqualFunc_SSimpl_Value_SSimpl_Value_Simpl_Value_Simpl_Value_gSlices_Equal_Simpl_Value_impl_Value_L0 (p1 : (List (List GValue))) (p0 : (List (List GValue))) : (∀ (x17 : Int) (r : Bool), gSlices_EqualFunc_SSimpl_Value_SSimpl_Value_Simpl_Value_Simpl_Value_gSlices_Equal_Simpl_Value_impl_Value_L0 p1 p0 x17 = some r → mogSlices_EqualFunc_SSimpl_Value_SSimpl_Value_Simpl_Value_Simpl_Value_gSlices_Equal_Simpl_Value_impl_Value_L0 p1 p0 x17 r) := by
 refine gSlices_EqualFunc_SSimpl_Value_SSimpl_Value_Simpl_Value_Simpl_Value_gSlices_Equal_Simpl_Value_impl_Value_L0.partial_correctness p1 p0 (fun x17 r => mogSlices_EqualFunc_SSimpl_Value_SSimpl_Value_Simpl_Value_Simpl_Value_gSlices_Equal_Simpl_Value_impl_Value_L0 p1 p0 x17 r) ?_
 · intro F_gSlices_EqualFunc_SSimpl_Value_SSimpl_Value_Simpl_Value_Simpl_Value_gSlices_Equal_Simpl_Value_impl_Value_L0 OK_gSlices_EqualFunc_SSimpl_Value_SSimpl_Value_Simpl_Value_Simpl_Value_gSlices_Equal_Simpl_Value_impl_Value_L0 x17 r h
   delta mogSlices_EqualFunc_SSimpl_Value_SSimpl_Value_Simpl_Value_Simpl_Value_gSlices_Equal_Simpl_Value_impl_Value_L0 acgSlices_EqualFunc_SSimpl_Value_SSimpl_Value_Simpl_Value_Simpl_Value_gSlices_Equal_Simpl_Value_impl_Value_L0
   refine loop_unroll (so (sx 1 (nx (si ?_))))
   refine cd h (fun h => ?_) fun h => ?_
   refine ki (xi (si (bi (so (sx 1 (iq h fun y1 h => (sx 3 (nx (so (sx 2 (iq h fun y2 h => ?_)))))))))))
   let a0 : St := (stgSlices_EqualFunc_SSimpl_Value_SSimpl_Value_Simpl_Value_Simpl_Value_gSlices_Equal_Simpl_Value_impl_Value_L0 p1 p0 x17).p [(9, (.d (.sl 3 (y2.map cGValue)))), (25, (.d (.sl 3 (y2.map cGValue)))), (24, (.rp [(.sl 3 (y2.map cGValue))])), (23, (vI x17)), (22, (.d (.sl 1 (p1.map (cSl 3 cGValue))))), (8, (.d (.sl 3 (y1.map cGValue)))), (7, (vI x17)), (21, (.d (.sl 3 (y1.map cGValue)))), (20, (.rp [(.sl 3 (y1.map cGValue))])), (19, (vI x17)), (18, (vB (decide (x17 < (ln p0)))))]
   refine st 2 a0 (nx (so (sx 3 (callv_step (m := gSlices_Equal_Simpl_Value_impl_Value y1 y2) (caps := []) (args := [(.d (.sl 3 (y1.map cGValue))), (.d (.sl 3 (y2.map cGValue)))]) (v' := (fun y => (vB y))) h (by kernel_rfl) (by kernel_rfl) (OK_gSlices_Equal_Simpl_Value_impl_Value _ _) (by kernel_rfl) (by kernel_rfl) (fun _ => rfl) fun y3 h => (sx 1 (nx ?_))))))
   refine cd h (fun h => ?_) fun h => ?_
   refine so (sx 1 (nx (ri (br (tr (tr (br (tr ?_))))))))
   injection h with h; subst h
   exact rp
   exact ki (bn (xi (oi (sx 2 (ni (lbs (OK_gSlices_EqualFunc_SSimpl_Value_SSimpl_Value_Simpl_Value_Simpl_Value_gSlices_Equal_Simpl_Value_impl_Value_L0 _ _ h) (wr [] (es (es (es (es (es er_nil))))) br_nil)))))))
   refine ei (te (te (bh (xi (so (sx 1 (nx (ri ?_))))))))
   injection h with h; subst h
   exact rp
theorem OK_gSlices_EqualFunc_SSimpl_Value_SSimpl_Value_Simpl_Value_Simpl_Value_gSlices_Equal_Simpl_Value_impl_Value_L0 (p1 : (List (List GValue))) (p0 : (List (List GValue))) (x17 : Int) (r : Bool) (h : gSlices_EqualFunc_SSimpl_Value_SSimpl_Value_Simpl_Value_Simpl_Value_gSlices_Equal_Simpl_Value_impl_Value_L0 p1 p0 x17 = some r) : mogSlices_EqualFunc_SSimpl_Value_SSimpl_Value_Simpl_Value_Simpl_Value_gSlices_Equal_Simpl_Value_impl_Value_L0 p1 p0 x17 r := (OKs_gSlices_EqualFunc_SSimpl_Value_SSimpl_Value_Simpl_Value_Simpl_Value_gSlices_Equal_Simpl_Value_impl_Value_L0 p1 p0) x17 r h
theorem OK_gSlices_EqualFunc_SSimpl_Value_SSimpl_Value_Simpl_Value_Simpl_Value_gSlices_Equal_Simpl_Value_impl_Value (p0 : (List (List GValue))) (p1 : (List (List GValue))) : FOk Tryd.prog 36 [(.d (.sl 1 (p0.map (cSl 3 cGValue)))), (.d (.sl 1 (p1.map (cSl 3 cGValue)))), (.fn 37 [])] (fun y => (vB y)) (gSlices_EqualFunc_SSimpl_Value_SSimpl_Value_Simpl_Value_Simpl_Value_gSlices_Equal_Simpl_Value_impl_Value p0 p1) := by
 intro r h
 rw [gSlices_EqualFunc_SSimpl_Value_SSimpl_Value_Simpl_Value_Simpl_Value_gSlices_Equal_Simpl_Value_impl_Value] at h
 refine ao trgSlices_EqualFunc_SSimpl_Value_SSimpl_Value_Simpl_Value_Simpl_Value_gSlices_Equal_Simpl_Value_impl_Value (so (sx 1 (nx (si (so (sx 1 (lq p0 (sx 1 (lq p1 (sx 1 (nx ?_)))))))))))
 refine cd h (fun h => ?_) fun h => ?_
 refine so (sx 1 (nx (ri (tr ?_))))
 injection h with h; subst h
 exact rp
 exact ki (xi (si (so (sx 1 (lq p0 (sx 1 (nx (bi (lgs (OK_gSlices_EqualFunc_SSimpl_Value_SSimpl_Value_Simpl_Value_Simpl_Value_gSlices_Equal_Simpl_Value_impl_Value_L0 _ _ _ _ h) (wr [] (es (es (es (es (es er_nil))))) br_nil))))))))))
theorem OK_iSameRows (p0 : (List (List GValue))) (p1 : (List (List GValue))) : FOk Tryd.prog 24 [(.d (.sl 1 (p0.map (cSl 3 cGValue)))), (.d (.sl 1 (p1.map (cSl 3 cGValue))))] (fun y => (vB y)) (iSameRows p0 p1) := by
 intro r h
 rw [iSameRows] at h
 refine ao triSameRows (so (sx 1 (nx (so (sx 2 (cs h (OK_gSlices_EqualFunc_SSimpl_Value_SSimpl_Value_Simpl_Value_Simpl_Value_gSlices_Equal_Simpl_Value_impl_Value _ _) fun y1 h => (sx 1 (nx (ri ?_)))))))))
 injection h with h; subst h
 exact rp
theorem OK_iSameDb_1 (p0 : GData) (p1 : GData) : FOk Tryd.prog 23 [(vGData p0), (vGData p1)] (fun y => (vB y)) (iSameDb_1 p0 p1) := by
 intro r h
 rw [iSameDb_1] at h
 refine ao triSameDb_1 (so (sx 3 (nx (so (sx 4 (cs h (OK_iSameRows _ _) fun y1 h => (sx 1 (nx (ri ?_)))))))))
 injection h with h; subst h
 exact rp
theorem OKs_gSlices_EqualFunc_Simpl_Data_Simpl_Data_impl_Data_impl_Data_iSameDb_1_L0 (p1 : (List GData)) (p0 : (List GData)) : (∀ (x17 : Int) (r : Bool), gSlices_EqualFunc_Simpl_Data_Simpl_Data_impl_Data_impl_Data_iSameDb_1_L0 p1 p0 x17 = some r → mogSlices_EqualFunc_Simpl_Data_Simpl_Data_impl_Data_impl_Data_iSameDb_1_L0 p1 p0 x17 r) := by
 refine gSlices_EqualFunc_Simpl_Data_Simpl_Data_impl_Data_impl_Data_iSameDb_1_L0.partial_correctness p1 p0 (fun x17 r => mogSlices_EqualFunc_Simpl_Data_Simpl_Data_impl_Data_impl_Data_iSameDb_1_L0 p1 p0 x17 r) ?_
 · intro F_gSlices_EqualFunc_Simpl_Data_Simpl_Data_impl_Data_impl_Data_iSameDb_1_L0 OK_gSlices_EqualFunc_Simpl_Data_Simpl_Data_impl_Data_impl_Data_iSameDb_1_L0 x17 r h
   delta mogSlices_EqualFunc_Simpl_Data_Simpl_Data_impl_Data_impl_Data_iSameDb_1_L0 acgSlices_EqualFunc_Simpl_Data_Simpl_Data_impl_Data_impl_Data_iSameDb_1_L0
   refine loop_unroll (so (sx 1 (nx (si ?_))))
   refine cd h (fun h => ?_) fun h => ?_
   refine ki (xi (si (bi (so (sx 1 (iq h fun y1 h => (sx 4 (nx (so (sx 2 (iq h fun y2 h => ?_)))))))))))
   let a0 : St := ⟨(9, (.ptr 9 0)) :: (25, (vGData y2)) :: (24, (.rp (cGData y2))) :: (23, (vI x17)) :: (22, (.d (.sl 1 (p1.map cGData)))) :: (7, (vI x17)) :: (8, (.ptr 8 0)) :: (21, (vGData y1)) :: (20, (.rp (cGData y1))) :: (19, (vI x17)) :: (18, (vB (decide (x17 < (ln p0))))) :: (stgSlices_EqualFunc_Simpl_Data_Simpl_Data_impl_Data_impl_Data_iSameDb_1_L0 p1 p0 x17).env, [(9, bGData y2), (8, bGData y1)]⟩
   refine st 3 a0 (nx (so (sx 3 (callv_step (m := iSameDb_1 y1 y2) (caps := []) (args := [(vGData y1), (vGData y2)]) (v' := (fun y => (vB y))) h (by kernel_rfl) (by kernel_rfl) (OK_iSameDb_1 _ _) (by kernel_rfl) (by kernel_rfl) (fun _ => rfl) fun y3 h => (sx 1 (nx ?_))))))
   refine cd h (fun h => ?_) fun h => ?_
   refine so (sx 1 (nx (ri (br (tr (tr (br (tr ?_))))))))
   injection h with h; subst h
   exact rp
   exact ki (bn (xi (oi (sx 2 (ni (lbs (OK_gSlices_EqualFunc_Simpl_Data_Simpl_Data_impl_Data_impl_Data_iSameDb_1_L0 _ _ h) (wr [] (es (es (es (es (es er_nil))))) br_nil)))))))
   refine ei (te (te (bh (xi (so (sx 1 (nx (ri ?_))))))))
   injection h with h; subst h
   exact rp
theorem OK_gSlices_EqualFunc_Simpl_Data_Simpl_Data_impl_Data_impl_Data_iSameDb_1_L0 (p1 : (List GData)) (p0 : (List GData)) (x17 : Int) (r : Bool) (h : gSlices_EqualFunc_Simpl_Data_Simpl_Data_impl_Data_impl_Data_iSameDb_1_L0 p1 p0 x17 = some r) : mogSlices_EqualFunc_Simpl_Data_Simpl_Data_impl_Data_impl_Data_iSameDb_1_L0 p1 p0 x17 r := (OKs_gSlices_EqualFunc_Simpl_Data_Simpl_Data_impl_Data_impl_Data_iSameDb_1_L0 p1 p0) x17 r h
theorem OK_gSlices_EqualFunc_Simpl_Data_Simpl_Data_impl_Data_impl_Data_iSameDb_1 (p0 : (List GData)) (p1 : (List GData)) : FOk Tryd.prog 22 [(.d (.sl 1 (p0.map cGData))), (.d (.sl 1 (p1.map cGData))), (.fn 23 [])] (fun y => (vB y)) (gSlices_EqualFunc_Simpl_Data_Simpl_Data_impl_Data_impl_Data_iSameDb_1 p0 p1) := by
 intro r h
 rw [gSlices_EqualFunc_Simpl_Data_Simpl_Data_impl_Data_impl_Data_iSameDb_1] at h
 refine ao trgSlices_EqualFunc_Simpl_Data_Simpl_Data_impl_Data_impl_Data_iSameDb_1 (so (sx 1 (nx (si (so (sx 1 (lq p0 (sx 1 (lq p1 (sx 1 (nx ?_)))))))))))
 refine cd h (fun h => ?_) fun h => ?_
 refine so (sx 1 (nx (ri (tr ?_))))
 injection h with h; subst h
 exact rp
 exact ki (xi (si (so (sx 1 (lq p0 (sx 1 (nx (bi (lgs (OK_gSlices_EqualFunc_Simpl_Data_Simpl_Data_impl_Data_impl_Data_iSameDb_1_L0 _ _ _ _ h) (wr [] (es (es (es (es (es er_nil))))) br_nil))))))))))
theorem OK_iSameDb (p0 : GDb) (p1 : GDb) : FOk Tryd.prog 9 [(vGDb p0), (vGDb p1)] (fun y => (vB y)) (iSameDb p0 p1) := by
 intro r h
 rw [iSameDb] at h
 refine ao triSameDb (so (sx 3 (nx (so (sx 4 (cs h (OK_gSlices_EqualFunc_Simpl_Data_Simpl_Data_impl_Data_impl_Data_iSameDb_1 _ _) fun y1 h => (sx 1 (nx (ri ?_)))))))))
 injection h with h; subst h
 exact rp
theorem OKs_sColAt_L0 (p1 : (List UInt8)) (p0 : GTable) : (∀ (x5 : Int) (r : Int), sColAt_L0 p1 p0 x5 = some r → mosColAt_L0 p1 p0 x5 r) := by
 refine sColAt_L0.partial_correctness p1 p0 (fun x5 r => mosColAt_L0 p1 p0 x5 r) ?_
 · intro F_sColAt_L0 OK_sColAt_L0 x5 r h
   delta mosColAt_L0 acsColAt_L0
   refine loop_unroll (si (so (sx 3 (lq p0.cols (sx 1 (nx ?_))))))
   refine cd h (fun h => ?_) fun h => ?_
   refine ki (xi (si (bi (so (sx 3 (iq h fun y1 h => (sx 4 (nx ?_))))))))
   refine cd h (fun h => ?_) fun h => ?_
   refine so (sx 2 (nx (ri (br (tr (tr (br (tr ?_))))))))
   injection h with h; subst h
   exact rp
   exact ki (bn (xi (oi (sx 3 (ni (lbs (OK_sColAt_L0 _ _ h) (wr [] (es (es (es er_nil))) (bs_ br_nil))))))))
   refine ei (te (te (bh (xi (so (sx 1 (nx (ri ?_))))))))
   injection h with h; subst h
   exact rp
theorem OK_sColAt_L0 (p1 : (List UInt8)) (p0 : GTable) (x5 : Int) (r : Int) (h : sColAt_L0 p1 p0 x5 = some r) : mosColAt_L0 p1 p0 x5 r := (OKs_sColAt_L0 p1 p0) x5 r h
theorem OK_sColAt (p0 : GTable) (p1 : (List UInt8)) : FOk Tryd.prog 21 [(vGTable p0), (vS p1)] (fun y => (vI y)) (sColAt p0 p1) := by
 intro r h
 rw [sColAt] at h
 exact ao trsColAt (so (sx 2 (nx (si (so (sx 1 (nx (bi (lgs (OK_sColAt_L0 _ _ _ _ h) (wr [] (es (es (es er_nil))) (bs_ br_nil)))))))))))
theorem OK_sL1In (p0 : Int) (p1 : Int) (p2 : Int) : FOk Tryd.prog 20 [(vI p0), (vI p1), (vI p2)] (fun y => (vB y)) (sL1In p0 p1 p2) := by
 intro r h
 rw [sL1In] at h
 refine ao trsL1In (so (sx 1 (nx (so (sx 4 (gq 0 (gq 0 (gq 2 (pkA h fun y1 h => (sx 1 (nx (ri ?_))))))))))))
 injection h with h; subst h
 exact rp
theorem OK_sNameOk (p0 : (List UInt8)) : FOk Tryd.prog 18 [(vS p0)] (fun y => (vB y)) (sNameOk p0) := by
 intro r h
 rw [sNameOk] at h
 refine ao trsNameOk (so (sx 1 (nx (so (sx 2 (cs h (OK_sL1In _ _ _) fun y1 h => (sx 1 (nx (ri ?_)))))))))
 injection h with h; subst h
 exact rp
theorem OKs_sTableAt_L0 (p1 : (List UInt8)) (p0 : GCatalog) : (∀ (x5 : Int) (r : Int), sTableAt_L0 p1 p0 x5 = some r → mosTableAt_L0 p1 p0 x5 r) := by
 refine sTableAt_L0.partial_correctness p1 p0 (fun x5 r => mosTableAt_L0 p1 p0 x5 r) ?_
 · intro F_sTableAt_L0 OK_sTableAt_L0 x5 r h
   delta mosTableAt_L0 acsTableAt_L0
   refine loop_unroll (si (so (sx 3 (lq p0.tables (sx 1 (nx ?_))))))
   refine cd h (fun h => ?_) fun h => ?_
   refine ki (xi (si (bi (so (sx 3 (iq h fun y1 h => (sx 4 (nx ?_))))))))
   refine cd h (fun h => ?_) fun h => ?_
   refine so (sx 2 (nx (ri (br (tr (tr (br (tr ?_))))))))
   injection h with h; subst h
   exact rp
   exact ki (bn (xi (oi (sx 3 (ni (lbs (OK_sTableAt_L0 _ _ h) (wr [] (es (es (es er_nil))) (bs_ br_nil))))))))
   refine ei (te (te (bh (xi (so (sx 1 (nx (ri ?_))))))))
   injection h with h; subst h
   exact rp
theorem OK_sTableAt_L0 (p1 : (List UInt8)) (p0 : GCatalog) (x5 : Int) (r : Int) (h : sTableAt_L0 p1 p0 x5 = some r) : mosTableAt_L0 p1 p0 x5 r := (OKs_sTableAt_L0 p1 p0) x5 r h
theorem OK_sTableAt (p0 : GCatalog) (p1 : (List UInt8)) : FOk Tryd.prog 19 [(vGCatalog p0), (vS p1)] (fun y => (vI y)) (sTableAt p0 p1) := by
 intro r h
 rw [sTableAt] at h
 exact ao trsTableAt (so (sx 2 (nx (si (so (sx 1 (nx (bi (lgs (OK_sTableAt_L0 _ _ _ _ h) (wr [] (es (es (es er_nil))) (bs_ br_nil)))))))))))
theorem OKs_sCatalogOk_L1 (p0 : GCatalog) : (∀ (x3 : Int) (y1 : GTable) (x5 : Int) (r : Bool), sCatalogOk_L1 x3 p0 y1 x5 = some r → mosCatalogOk_L1 x3 p0 y1 x5 r) ∧ (∀ (x3 : Int) (r : Bool), sCatalogOk_L0 p0 x3 = some r → mosCatalogOk_L0 p0 x3 r) := by
 refine sCatalogOk_L1.mutual_partial_correctness p0 (fun x3 y1 x5 r => mosCatalogOk_L1 x3 p0 y1 x5 r) (fun x3 r => mosCatalogOk_L0 p0 x3 r) ?_ ?_
 · intro F_sCatalogOk_L1 F_sCatalogOk_L0 OK_sCatalogOk_L1 OK_sCatalogOk_L0 x3 y1 x5 r h
   delta mosCatalogOk_L1 acsCatalogOk_L1
   refine loop_unroll (si (so (sx 3 (lq y1.cols ?_))))
   let a1 : St := (stsCatalogOk_L1 x3 p0 y1 x5).p [(45, (vB (decide (x5 < (ln y1.cols))))), (44, (vI (ln y1.cols))), (43, (.d (.sl 2 (y1.cols.map cGCol)))), (42, (.ptr 4 1)), (41, (vI x5))]
   refine st 1 a1 (nx ?_)
   refine cd h (fun h => ?_) fun h => ?_
   refine ki (xi (si (bi (si (dops_in (dsx 3 (diq h fun y7 h => (dsx 2 (dcs h (OK_sNameOk _) fun y8 h => (dsx 2 (dgq 0 (dgq 0 (dgq 1 (dgq 0 ?_))))))))))))))
   refine dgv_step (p := true) (b := (!y8)) (m := idx y1.cols x5) (dflt := default) (v' := fun y => (.rp (cGCol y))) h (by kernel_rfl) rfl rfl (fun y hy hc => vop_ia (l := y1.cols) (f := cGCol) (g := cGCol) (k := .i64) hy (fun _ => rfl) (Eq.trans (b := ([(true && ((!y8) == false)), (true && ((!y8) == false))] : List Bool).all id) (by kernel_rfl) (all_c hc (all_c hc rfl))) (by kernel_rfl) (by kernel_rfl)) fun y9 h => ?_
   refine dgq 1 (dgq 1 (dgc 2 h (OK_sColAt _ _) fun y10 h => (dgq 0 (dgq 2 (dpkO h fun y11 h => (dsx 1 (dgq 0 (dgq 1 (dgq 0 ?_)))))))))
   refine dgv_step (p := true) (b := y11) (m := idx y1.cols x5) (dflt := default) (v' := fun y => (.rp (cGCol y))) h (by kernel_rfl) rfl rfl (fun y hy hc => vop_ia (l := y1.cols) (f := cGCol) (g := cGCol) (k := .i64) hy (fun _ => rfl) (Eq.trans (b := ([(true && (y11 == false)), (true && (y11 == false))] : List Bool).all id) (by kernel_rfl) (all_c hc (all_c hc rfl))) (by kernel_rfl) (by kernel_rfl)) fun y12 h => ?_
   refine dgq 1 (dgq 1 (dgc 1 h (OK_sL1In _ _ _) fun y13 h => (dgq 1 (dpkO h fun y14 h => (dnil_in (by kernel_rfl) (by kernel_rfl) (xi ?_))))))
   refine cd h (fun h => ?_) fun h => ?_
   refine so (sx 1 (nx (ri (br (tr (tr (br (br (tr (tr (br (tr ?_))))))))))))
   injection h with h; subst h
   exact rp
   exact ki (bn (xi (oi (sx 3 (ni (lbs (OK_sCatalogOk_L1 _ _ _ _ h) (wr [] (es (es (es (es er_nil)))) (bs_ (bs_ br_nil)))))))))
   exact ei (te (te (bh (bn (xi (oi (sx 3 (ni (lbs (OK_sCatalogOk_L0 _ _ h) (wr [] (es (es er_nil)) (bs_ br_nil)))))))))))
 · intro F_sCatalogOk_L1 OK_sCatalogOk_L1 x3 r h
   delta mosCatalogOk_L0 acsCatalogOk_L0
   refine loop_unroll (si (so (sx 3 (lq p0.tables (sx 1 (nx ?_))))))
   refine cd h (fun h => ?_) fun h => ?_
   refine ki (xi (si (bi (so (sx 3 (iq h fun y1 h => (sx 3 (nx (si (so (sx 2 (cs h (OK_sNameOk _) fun y2 h => (sx 2 (gq 0 (gq 0 (gq 1 (gc 2 h (OK_sTableAt _ _) fun y3 h => (gq 0 (gq 2 (pkO h fun y4 h => (sx 1 (gq 0 (gq 1 (glq 1 y1.cols (gc 1 h (OK_sL1In _ _ _) fun y5 h => (gq 1 (pkO h fun y6 h => (nx ?_))))))))))))))))))))))))))))
   refine cd h (fun h => ?_) fun h => ?_
   refine so (sx 1 (nx (ri (tr (br (tr (tr (br (tr ?_)))))))))
   injection h with h; subst h
   exact rp
   exact ki (xi (so (sx 1 (nx (bi (lgs (OK_sCatalogOk_L1 _ _ _ _ h) (wr [] (es (es (es (es er_nil)))) (bs_ (bs_ br_nil)))))))))
   refine ei (te (te (bh (xi (so (sx 1 (nx (ri ?_))))))))
   injection h with h; subst h
   exact rp
theorem OK_sCatalogOk_L1 (x3 : Int) (p0 : GCatalog) (y1 : GTable) (x5 : Int) (r : Bool) (h : sCatalogOk_L1 x3 p0 y1 x5 = some r) : mosCatalogOk_L1 x3 p0 y1 x5 r := (OKs_sCatalogOk_L1 p0).1 x3 y1 x5 r h
theorem OK_sCatalogOk_L0 (p0 : GCatalog) (x3 : Int) (r : Bool) (h : sCatalogOk_L0 p0 x3 = some r) : mosCatalogOk_L0 p0 x3 r := (OKs_sCatalogOk_L1 p0).2 x3 r h
theorem OK_sCatalogOk (p0 : GCatalog) : FOk Tryd.prog 8 [(vGCatalog p0)] (fun y => (vB y)) (sCatalogOk p0) := by
 intro r h
 rw [sCatalogOk] at h
 refine ao trsCatalogOk (so ?_)
 let a0 : St := ⟨[(2, (vB false)), (1, (.ptr 1 0)), (0, (vGCatalog p0))], [(1, bGCatalog p0)]⟩
 refine st 2 a0 (nx (si (so (sx 2 (lq p0.tables (sx 1 (nx ?_)))))))
 refine cd h (fun h => ?_) fun h => ?_
 refine so (sx 1 (nx (ri (tr ?_))))
 injection h with h; subst h
 exact rp
 exact ki (xi (si (so (sx 1 (nx (bi (lgs (OK_sCatalogOk_L0 _ _ _ h) (wr [] (es (es er_nil)) (bs_ br_nil)))))))))
theorem OK_sL16Draw_J0 (b3_0 : (List GTable)) (b1000000_0 : (List Int)) (b1000000_1 : Int) (b1000000_2 : Int) (r : GCatalog × GL1Cur) (h : sL16Draw_J0 b3_0 b1000000_0 b1000000_1 b1000000_2 = some r) : mosL16Draw_J0 b3_0 b1000000_0 b1000000_1 b1000000_2 r := by
 rw [sL16Draw_J0] at h
 delta mosL16Draw_J0 acsL16Draw_J0
 refine so (sx 2 (nx (ri ?_)))
 injection h with h; subst h
 exact rb
theorem OKs_sDigits_J1 (p0 : Int) : (∀ (x0 : Int) (x4 : (List UInt8)) (x5 : Int) (r : (List UInt8)), sDigits_J1 x0 p0 x4 x5 = some r → mosDigits_J1 x0 p0 x4 x5 r) ∧ (∀ (x0 : Int) (x4 : (List UInt8)) (r : (List UInt8)), sDigits_L0 p0 x0 x4 = some r → mosDigits_L0 p0 x0 x4 r) := by
 refine sDigits_J1.mutual_partial_correctness p0 (fun x0 x4 x5 r => mosDigits_J1 x0 p0 x4 x5 r) (fun x0 x4 r => mosDigits_L0 p0 x0 x4 r) ?_ ?_
 · intro F_sDigits_L0 OK_sDigits_L0 x0 x4 x5 r h
   delta mosDigits_J1 acsDigits_J1
   refine so (sx 3 (bsl_step (l := ([(IntKind.wrap .u8 (IntKind.wrap .i64 (48 + x5)))] : List Int)) (f := cU8) (g := cU8) (by kernel_rfl) (fun _ => rfl) (by kernel_rfl) (vs (fun (y : (List UInt8)) => (vS y)) h (fun y hy => vop_cbs (l := ([(IntKind.wrap .u8 (IntKind.wrap .i64 (48 + x5)))] : List Int)) hy (by kernel_rfl) (by kernel_rfl)) fun y2 h => (sx 1 ?_))))
   exact vs (fun (y : (List UInt8)) => (vS y)) h (fun y hy => vop_cat (a := y2) (b := x4) hy (by kernel_rfl) (by kernel_rfl) (by kernel_rfl)) fun y3 h => (sx 1 (nx (oi (sx 3 (ni (bn (lbs (OK_sDigits_L0 _ _ _ h) (wr [] (es (es (es er_nil))) br_nil))))))))
 · intro F_sDigits_J1 OK_sDigits_J1 x0 x4 r h
   delta mosDigits_L0 acsDigits_L0
   refine loop_unroll (si (so (sx 2 (nx ?_))))
   refine cd h (fun h => ?_) fun h => ?_
   refine ki (xi (bi (so (sx 3 (nx (si (so (sx 2 (nx ?_)))))))))
   refine cd h (fun h => ?_) fun h => ?_
   exact oi (sx 3 (ni (nxs (OK_sDigits_J1 _ _ _ _ h) (wr [] (es (es (es (es er_nil)))) br_nil))))
   exact ki (nxs (OK_sDigits_J1 _ _ _ _ h) (wr [] (es (es (es (es er_nil)))) br_nil))
   refine ei (te (te (bh (xi (si (so (sx 1 (nx ?_))))))))
   refine cd h (fun h => ?_) fun h => ?_
   refine so (sx 1 (vs (fun (y : (List UInt8)) => (vS y)) h (fun y hy => vop_cat (a := [45]) (b := x4) hy (by kernel_rfl) (by kernel_rfl) (by kernel_rfl)) fun y1 h => (sx 1 (nx (ri (tr ?_))))))
   injection h with h; subst h
   exact rp
   refine ki (xi (so (sx 2 (nx (ri ?_)))))
   injection h with h; subst h
   exact rp
theorem OK_sDigits_J1 (x0 : Int) (p0 : Int) (x4 : (List UInt8)) (x5 : Int) (r : (List UInt8)) (h : sDigits_J1 x0 p0 x4 x5 = some r) : mosDigits_J1 x0 p0 x4 x5 r := (OKs_sDigits_J1 p0).1 x0 x4 x5 r h
theorem OK_sDigits_L0 (p0 : Int) (x0 : Int) (x4 : (List UInt8)) (r : (List UInt8)) (h : sDigits_L0 p0 x0 x4 = some r) : mosDigits_L0 p0 x0 x4 r := (OKs_sDigits_J1 p0).2 x0 x4 r h
theorem OK_sDigits (p0 : Int) : FOk Tryd.prog 31 [(vI p0)] (fun y => (vS y)) (sDigits p0) := by
 intro r h
 rw [sDigits] at h
 refine ao trsDigits (so (sx 1 (nx (si (so (sx 2 (nx ?_)))))))
 refine cd h (fun h => ?_) fun h => ?_
 refine so ?_
 let a0 : St := ⟨[(2, (vS [48])), (7, (vB (decide (p0 = 0)))), (6, (vI p0)), (2, (vS [])), (0, (vI p0))], []⟩
 refine st 1 a0 (nx (ri (tr ?_)))
 injection h with h; subst h
 exact rp
 exact ki (xi (so (sx 3 (nx (so (sx 1 (nx (si (bi (lgs (OK_sDigits_L0 _ _ _ _ h) (wr [] (es (es (es er_nil))) br_nil)))))))))))
theorem OK_sL1Byte_J0 (p0 : GL1Cur) (x3 : Int) (b1000000_1 : Int) (r : Int × GL1Cur) (h : sL1Byte_J0 p0 x3 b1000000_1 = some r) : mosL1Byte_J0 p0 x3 b1000000_1 r := by
 rw [sL1Byte_J0] at h
 delta mosL1Byte_J0 acsL1Byte_J0
 refine so ?_
 let a0 : St := (stsL1Byte_J0 p0 x3 b1000000_1).p [(2, (vI x3)), (57, (vI x3))]
 refine st 2 a0 (nx (ri ?_))
 injection h with h; subst h
 exact rb
theorem OK_sL1Byte (p0 : GL1Cur) : FOkB Tryd.prog 46 [(.ptr 1000000 0)] [(1000000, bGL1Cur p0)] (fun (y : Int × GL1Cur) => (vI y.1)) (fun (y : Int × GL1Cur) => [(1000000, bGL1Cur y.2)]) (sL1Byte p0) := by
 intro r h
 rw [sL1Byte] at h
 refine ao trsL1Byte (so (sx 1 (nx (so (sx 10 (nx (si (dops_in (dsx 13 (dnil_in (by kernel_rfl) (by kernel_rfl) (xi (si (si (dops_in (dsx 8 (dlqf cU8 p0.b (dsx 1 (dnil_in (by kernel_rfl) (by kernel_rfl) (xi ?_)))))))))))))))))))
 refine cd h (fun h => ?_) fun h => ?_
 exact si (dops_in (dsx 9 (diqf cU8 h fun y1 h => (dsx 5 (dnil_in (by kernel_rfl) (by kernel_rfl) (xi (oi (sx 9 (ni (nxs (OK_sL1Byte_J0 _ _ _ _ h) (wr [] (es er_nil) (bs_ br_nil))))))))))))
 exact ki (nxs (OK_sL1Byte_J0 _ _ _ _ h) (wr [] (es er_nil) (bs_ br_nil)))
theorem OK_sL1Below (p0 : GL1Cur) (p1 : Int) : FOkB Tryd.prog 29 [(.ptr 1000000 0), (vI p1)] [(1000000, bGL1Cur p0)] (fun (y : Int × GL1Cur) => (vI y.1)) (fun (y : Int × GL1Cur) => [(1000000, bGL1Cur y.2)]) (sL1Below p0 p1) := by
 intro r h
 rw [sL1Below] at h
 refine ao trsL1Below (so (sx 1 (nx (si (so (sx 2 (nx ?_)))))))
 refine cd h (fun h => ?_) fun h => ?_
 refine so (sx 1 (nx (ri (tr ?_))))
 injection h with h; subst h
 exact rb
 refine ki (xi (si (so (sx 2 (nx ?_)))))
 refine cd h (fun h => ?_) fun h => ?_
 refine so (sx 1 (cg ⟨[(1000000, 1000000)], [], [], [], [], [], [], [], []⟩ h (OK_sL1Byte _) fun y1 h => (sx 1 (vs (fun (y : Int) => (vI y)) h (fun y hy => vop_rem (k := .i64) (a := y1.1) (b := p1) hy (by kernel_rfl) (by kernel_rfl) (by kernel_rfl)) fun y2 h => (sx 1 (nx (ri (tr ?_))))))))
 injection h with h; subst h
 exact rb
 refine ki (xi (so (sx 1 (cg ⟨[(1000000, 1000000)], [], [], [], [], [], [], [], []⟩ h (OK_sL1Byte _) fun y3 h => (sx 1 (nx (so (sx 1 (cg ⟨[(1000000, 1000000)], [], [], [], [], [], [], [], []⟩ h (OK_sL1Byte _) fun y4 h => (sx 1 (nx (so (sx 1 (cg ⟨[(1000000, 1000000)], [], [], [], [], [], [], [], []⟩ h (OK_sL1Byte _) fun y5 h => (sx 1 (nx (so (sx 1 ?_))))))))))))))))))
 refine cg ⟨[(1000000, 1000000)], [], [], [], [], [], [], [], []⟩ h (OK_sL1Byte _) fun y6 h => (sx 1 (nx (so (sx 11 ?_))))
 refine vs (fun (y : Int) => (vI y)) h (fun y hy => vop_rem (k := .i64) (a := (IntKind.wrap .i64 ((IntKind.wrap .i64 ((IntKind.wrap .i64 ((IntKind.wrap .i64 (y3.1 * 16777216)) + (IntKind.wrap .i64 (y4.1 * 65536)))) + (IntKind.wrap .i64 (y5.1 * 256)))) + y6.1))) (b := p1) hy (by kernel_rfl) (by kernel_rfl) (by kernel_rfl)) fun y7 h => (sx 1 (nx (ri ?_)))
 injection h with h; subst h
 exact rb
theorem OKs_sL16Draw_L1 : (∀ (b1000000_0_12 : (List Int)) (b1000000_1_13 : Int) (b1000000_2_14 : Int) (b60092000_0 : (List GTable)) (r : GCatalog × GL1Cur), sL16Draw_L1 b1000000_0_12 b1000000_1_13 b1000000_2_14 b60092000_0 = some r → mosL16Draw_L1 b1000000_0_12 b1000000_1_13 b1000000_2_14 b60092000_0 r) := by
 refine sL16Draw_L1.partial_correctness (fun b1000000_0_12 b1000000_1_13 b1000000_2_14 b60092000_0 r => mosL16Draw_L1 b1000000_0_12 b1000000_1_13 b1000000_2_14 b60092000_0 r) ?_
 · intro F_sL16Draw_L1 OK_sL16Draw_L1 b1000000_0_12 b1000000_1_13 b1000000_2_14 b60092000_0 r h
   delta mosL16Draw_L1 acsL16Draw_L1
   refine loop_unroll (si (si (dops_in (dsx 2 (dp_step (v' := (vI (ln b60092000_0))) rfl rfl (vop_lenT (n := 60092000) (l := b60092000_0.map cGTable) (L := b60092000_0.length) (by kernel_rfl) (by kernel_rfl) (List.length_map ..)) (dsx 1 (dcg ⟨[(1000000, 1000000)], [], [], [], [], [], [], [], []⟩ [] [] h (OK_sL1Below _ _) fun y15 h => (dsx 2 (dnil_in (by kernel_rfl) (by kernel_rfl) (xi ?_))))))))))
   refine cd h (fun h => ?_) fun h => ?_
   refine ki (xi (bi (dops_in (dsx 4 (dp_step (v' := (vI (ln b60092000_0))) rfl rfl (vop_lenT (n := 60092000) (l := b60092000_0.map cGTable) (L := b60092000_0.length) (by kernel_rfl) (by kernel_rfl) (List.length_map ..)) (dcs h (OK_sDigits _) fun y16 h => ?_))))))
   refine dv_step (m := catS [120] y16) (v' := fun y => (vS y)) h rfl rfl (fun y hy => vop_cat (a := [120]) (b := y16) hy (by kernel_rfl) (by kernel_rfl) (by kernel_rfl)) fun y17 h => (dsx 4 (dbslT_step (l := ([(GCol.mk [97] 1), (GCol.mk [98] 1), (GCol.mk [99] 2), (GCol.mk [100] 3)] : List GCol)) (f := cGCol) (g := cGCol) [] (by kernel_rfl) (fun _ => rfl) (by kernel_rfl) rfl ?_))
   refine dbldv_step (c := [(vS y17), (.tre 74)]) (by kernel_rfl) (by kernel_rfl) rfl (dbslT_step (l := ([(GTable.mk y17 ([(GCol.mk [97] 1), (GCol.mk [98] 1), (GCol.mk [99] 2), (GCol.mk [100] 3)] : List GCol))] : List GTable)) (f := cGTable) (g := cGTable) [74] (by kernel_rfl) (fun _ => rfl) (by kernel_rfl) rfl ?_)
   refine dappTT_step (l := b60092000_0) (m := ([(GTable.mk y17 ([(GCol.mk [97] 1), (GCol.mk [98] 1), (GCol.mk [99] 2), (GCol.mk [100] 3)] : List GCol))] : List GTable)) (f := cGTable) [60092000] [76] h (by kernel_rfl) (by kernel_rfl) (by kernel_rfl) (by kernel_rfl) (fun _ => rfl) fun y18 h => (dsx 2 (dnil_in (by kernel_rfl) (by kernel_rfl) (bn ?_)))
   exact lbs (OK_sL16Draw_L1 _ _ _ _ _ h) (tw [.rn [(77, 60092000)]] (wr [] (es (es (es er_nil))) (bs_ (bs_ (bs_ (bs_ br_nil))))))
   exact ei (te (te (bh (bn (nxs (OK_sL16Draw_J0 _ _ _ _ _ h) (tw [.frz [60092000]] (wr [] (es (es er_nil)) (bs_ (bs_ (bs_ br_nil))))))))))
theorem OK_sL16Draw_L1 (b1000000_0_12 : (List Int)) (b1000000_1_13 : Int) (b1000000_2_14 : Int) (b60092000_0 : (List GTable)) (r : GCatalog × GL1Cur) (h : sL16Draw_L1 b1000000_0_12 b1000000_1_13 b1000000_2_14 b60092000_0 = some r) : mosL16Draw_L1 b1000000_0_12 b1000000_1_13 b1000000_2_14 b60092000_0 r := (OKs_sL16Draw_L1) b1000000_0_12 b1000000_1_13 b1000000_2_14 b60092000_0 r h
theorem OK_sL1Once (p0 : GL1Cur) (p1 : Int) : FOkB Tryd.prog 44 [(.ptr 1000000 0), (vI p1)] [(1000000, bGL1Cur p0)] (fun (y : Bool × GL1Cur) => (vB y.1)) (fun (y : Bool × GL1Cur) => [(1000000, bGL1Cur y.2)]) (sL1Once p0 p1) := by
 intro r h
 rw [sL1Once] at h
 refine ao trsL1Once (so (sx 1 (nx (so (sx 2 (cg ⟨[(1000000, 1000000)], [], [], [], [], [], [], [], []⟩ h (OK_sL1Below _ _) fun y1 h => (sx 2 (nx (ri ?_)))))))))
 injection h with h; subst h
 exact rb
theorem OK_sL1Pick (p0 : GL1Cur) (p1 : (List (List UInt8))) : FOkB Tryd.prog 42 [(.ptr 1000000 0), (.d (.sl 1 (p1.map cStr)))] [(1000000, bGL1Cur p0)] (fun (y : (List UInt8) × GL1Cur) => (vS y.1)) (fun (y : (List UInt8) × GL1Cur) => [(1000000, bGL1Cur y.2)]) (sL1Pick p0 p1) := by
 intro r h
 rw [sL1Pick] at h
 refine ao trsL1Pick (so (sx 1 (nx (so (sx 3 (lq p1 (cg ⟨[(1000000, 1000000)], [], [], [], [], [], [], [], []⟩ h (OK_sL1Below _ _) fun y1 h => (iq h fun y2 h => (sx 2 (nx (ri ?_)))))))))))
 injection h with h; subst h
 exact rb
theorem OK_sL1PickInt (p0 : GL1Cur) (p1 : (List Int)) : FOkB Tryd.prog 43 [(.ptr 1000000 0), (.d (.sl 1 (p1.map cI)))] [(1000000, bGL1Cur p0)] (fun (y : Int × GL1Cur) => (vI y.1)) (fun (y : Int × GL1Cur) => [(1000000, bGL1Cur y.2)]) (sL1PickInt p0 p1) := by
 intro r h
 rw [sL1PickInt] at h
 refine ao trsL1PickInt (so (sx 1 (nx (so (sx 3 (lqf cI p1 (cg ⟨[(1000000, 1000000)], [], [], [], [], [], [], [], []⟩ h (OK_sL1Below _ _) fun y1 h => (iqf cI h fun y2 h => (sx 2 (nx (ri ?_)))))))))))
 injection h with h; subst h
 exact rb
theorem OK_sL2Name (p0 : GL1Cur) : FOkB Tryd.prog 45 [(.ptr 1000000 0)] [(1000000, bGL1Cur p0)] (fun (y : (List UInt8) × GL1Cur) => (vS y.1)) (fun (y : (List UInt8) × GL1Cur) => [(1000000, bGL1Cur y.2)]) (sL2Name p0) := by
 intro r h
 rw [sL2Name] at h
 refine ao trsL2Name (so (sx 1 (nx (si (so (sx 1 (cg ⟨[(1000000, 1000000)], [], [], [], [], [], [], [], []⟩ h (OK_sL1Once _ _) fun y1 h => (nx ?_))))))))
 refine cd h (fun h => ?_) fun h => ?_
 refine so (sx 1 (bsl_step (l := ([[97, 32, 98], [102, 114, 111, 109], [83, 101, 108, 101, 99, 116], [49, 120], [113, 34, 113], [0], [34], [105, 116, 39, 115], [120, 46, 121], [45]] : List (List UInt8))) (f := cStr) (g := cStr) (by kernel_rfl) (fun _ => rfl) (by kernel_rfl) (cg ⟨[(1000000, 1000000)], [], [], [], [], [], [], [], []⟩ h (OK_sL1Pick _ _) fun y2 h => (sx 1 (nx (ri (tr ?_)))))))
 injection h with h; subst h
 exact rb
 refine ki (xi (so (sx 1 (bsl_step (l := ([[97], [98], [99], [116], [117], [118], [105, 100], [110, 97, 109, 101], [65], [95, 120, 49]] : List (List UInt8))) (f := cStr) (g := cStr) (by kernel_rfl) (fun _ => rfl) (by kernel_rfl) (cg ⟨[(1000000, 1000000)], [], [], [], [], [], [], [], []⟩ h (OK_sL1Pick _ _) fun y3 h => (sx 1 (nx (ri ?_))))))))
 injection h with h; subst h
 exact rb
theorem OKs_sL16Right_X_J3 (y1 : Int × GL1Cur) : (∀ (x6 : Int) (y3 : Int × GL1Cur) (x9 : Int) (y2 : (List UInt8)) (b1000000_0_11 : (List Int)) (kb1000000_1_12q : (Int × (Int × ((List GTable) × (List GCol))))) (r : GCatalog × GL1Cur), sL16Right_X_J3 y1 x6 y3 x9 y2 b1000000_0_11 kb1000000_1_12q = some r → mosL16Right_X_J3 y1 x6 y3 x9 y2 b1000000_0_11 kb1000000_1_12q r) ∧ (∀ (x6 : Int) (y3 : Int × GL1Cur) (y2 : (List UInt8)) (b60023000_0 : (List GTable)) (x9 : Int) (kb1000000_0_4 : ((List Int) × (Int × (Int × (List GCol))))) (r : GCatalog × GL1Cur), sL16Right_X_L1 y1 x6 y3 y2 b60023000_0 x9 kb1000000_0_4 = some r → mosL16Right_X_L1 y1 x6 y3 y2 b60023000_0 x9 kb1000000_0_4 r) ∧ (∀ (x6 : Int) (b1000000_0 : (List Int)) (b1000000_1 : Int) (b1000000_2 : Int) (b60023000_0 : (List GTable)) (r : GCatalog × GL1Cur), sL16Right_X_L0 y1 x6 b1000000_0 b1000000_1 b1000000_2 b60023000_0 = some r → mosL16Right_X_L0 y1 x6 b1000000_0 b1000000_1 b1000000_2 b60023000_0 r) ∧ (∀ (x6 : Int) (y3 : Int × GL1Cur) (x9 : Int) (y2 : (List UInt8)) (y8 : Int × GL1Cur) (b60055001_0 : (List GCol)) (kb60023000_0q : ((List GTable) × ((List UInt8) × ((List Int) × (Int × Int))))) (r : GCatalog × GL1Cur), sL16Right_X_J2 y1 x6 y3 x9 y2 y8 b60055001_0 kb60023000_0q = some r → mosL16Right_X_J2 y1 x6 y3 x9 y2 y8 b60055001_0 kb60023000_0q r) := by
 refine sL16Right_X_J3.mutual_partial_correctness y1 (fun x6 y3 x9 y2 b1000000_0_11 kb1000000_1_12q r => mosL16Right_X_J3 y1 x6 y3 x9 y2 b1000000_0_11 kb1000000_1_12q r) (fun x6 y3 y2 b60023000_0 x9 kb1000000_0_4 r => mosL16Right_X_L1 y1 x6 y3 y2 b60023000_0 x9 kb1000000_0_4 r) (fun x6 b1000000_0 b1000000_1 b1000000_2 b60023000_0 r => mosL16Right_X_L0 y1 x6 b1000000_0 b1000000_1 b1000000_2 b60023000_0 r) (fun x6 y3 x9 y2 y8 b60055001_0 kb60023000_0q r => mosL16Right_X_J2 y1 x6 y3 x9 y2 y8 b60055001_0 kb60023000_0q r) ?_ ?_ ?_ ?_
 · intro F_sL16Right_X_L1 OK_sL16Right_X_L1 x6 y3 x9 y2 b1000000_0_11 kb1000000_1_12q r h
   delta mosL16Right_X_J3 acsL16Right_X_J3
   refine oi (sx 3 (ni ?_))
   exact lbs (OK_sL16Right_X_L1 _ _ _ _ _ (_, (_, (_, _))) _ h) (tw [.rn [(60107000, 60055000), (60107001, 60055001)]] (wr [(4, .old 4)] (es (es (es (eo 4 (es (es (es (es (es er_nil))))))))) (bs_ (bs_ (bs_ (bs_ (bs_ (bs_ br_nil))))))))
 · intro F_sL16Right_X_L0 F_sL16Right_X_J2 OK_sL16Right_X_L0 OK_sL16Right_X_J2 x6 y3 y2 b60023000_0 x9 kb1000000_0_4 r h
   delta mosL16Right_X_L1 acsL16Right_X_L1
   refine loop_unroll (si (so (sx 3 (nx ?_))))
   refine cd h (fun h => ?_) fun h => ?_
   refine ki (xi (si (bi (so (sx 1 (bsl_step (l := ([[97], [98], [99], [105, 100], [110, 97, 109, 101]] : List (List UInt8))) (f := cStr) (g := cStr) (by kernel_rfl) (fun _ => rfl) (by kernel_rfl) (cg ⟨[(1000000, 1000000)], [], [], [], [], [], [], [], []⟩ h (OK_sL1Pick _ _) fun y7 h => (sx 1 (bsl_step (l := ([1, 1, 2, 3] : List Int)) (f := cI) (g := cI) (by kernel_rfl) (fun _ => rfl) (by kernel_rfl) ?_)))))))))
   refine cg ⟨[(1000000, 1000000)], [], [], [], [], [], [], [], []⟩ h (OK_sL1PickInt _ _) fun y8 h => (sx 3 (nx (si (so (sx 1 (cg ⟨[(1000000, 1000000)], [], [], [], [], [], [], [], []⟩ h (OK_sL1Once _ _) fun y9 h => (nx ?_)))))))
   refine cd h (fun h => ?_) fun h => ?_
   refine oi (sx 1 (cg ⟨[(1000000, 1000000)], [], [], [], [], [], [], [], []⟩ h (OK_sL2Name _) fun y10 h => (sx 2 (ni ?_))))
   exact nxs (OK_sL16Right_X_J2 _ _ _ _ _ _ (_, (_, (_, (_, _)))) _ h) (tw [.rn [(60055000, 60090000), (60055001, 60090001)]] (wr [(4, .old 4)] (es (es (es (eo 4 (es (es (es (es (es (es er_nil)))))))))) (bs_ (bs_ (bs_ (bs_ (bs_ (bs_ (bs_ br_nil)))))))))
   refine ki ?_
   exact nxs (OK_sL16Right_X_J2 _ _ _ _ _ _ (_, (_, (_, (_, _)))) _ h) (tw [.rn [(60055000, 60090000), (60055001, 60090001)]] (wr [(4, .old 4)] (es (es (es (eo 4 (es (es (es (es (es (es er_nil)))))))))) (bs_ (bs_ (bs_ (bs_ (bs_ (bs_ (bs_ br_nil)))))))))
   refine ei (te (te (bh (xi (oi (sx 3 (bslT_step (l := ([(GTable.mk y2 kb1000000_0_4.2.2.2)] : List GTable)) (f := cGTable) (g := cGTable) [60055001] (by kernel_rfl) (fun _ => rfl) (by kernel_rfl) rfl ?_)))))))
   refine appTT_step (l := b60023000_0) (m := ([(GTable.mk y2 kb1000000_0_4.2.2.2)] : List GTable)) (f := cGTable) [60055000] [60] h (by kernel_rfl) (by kernel_rfl) (by kernel_rfl) (by kernel_rfl) (fun _ => rfl) fun y14 h => (sx 2 (ni (bn (xi (oi (sx 3 (ni ?_)))))))
   exact lbs (OK_sL16Right_X_L0 _ _ _ _ _ _ h) (tw [.rn [(61, 60023000)]] (wr [(4, .old 4)] (es (es (es (eo 4 (es (es er_nil)))))) (bs_ (bs_ (bs_ (bs_ br_nil))))))
 · intro F_sL16Right_X_L1 OK_sL16Right_X_L1 x6 b1000000_0 b1000000_1 b1000000_2 b60023000_0 r h
   delta mosL16Right_X_L0 acsL16Right_X_L0
   refine loop_unroll (si (so (sx 3 (nx ?_))))
   refine cd h (fun h => ?_) fun h => ?_
   refine ki (xi (si (bi (so (sx 2 (iq h fun y2 h => (sx 1 (bldv_step (c := [(vS y2), (.nil 2)]) (by kernel_rfl) (by kernel_rfl) rfl (sx 2 (nx (so (sx 1 (cg ⟨[(1000000, 1000000)], [], [], [], [], [], [], [], []⟩ h (OK_sL1Below _ _) fun y3 h => (sx 2 (nx (si (so (sx 1 (nx (bi ?_))))))))))))))))))))
   exact lgs (OK_sL16Right_X_L1 _ _ _ _ _ (_, (_, (_, _))) _ h) (tw [.rn [(60023000, 60055000)], .nb 7 1 60055001] (wr [(4, .old 4)] (es (es (es (eo 4 (es (es (es (es (es er_nil))))))))) (bs_ (bs_ (bs_ (bs_ (bs_ (bs_ br_nil))))))))
   refine ei (te (te (bh (xi (so ?_)))))
   let a0 : St := ⟨(63, (.agv [(.tre 60023000)])) :: (18, (vB (decide (x6 < (IntKind.wrap .i64 (1 + y1.1)))))) :: (17, (vI (IntKind.wrap .i64 (1 + y1.1)))) :: (16, (vI x6)) :: (stsL16Right_X_L0 y1 x6 b1000000_0 b1000000_1 b1000000_2 b60023000_0).env, [(2, [(.tre 60023000)]), (3, [(.tre 60023000)]), (1000000, bGL1Cur (GL1Cur.mk b1000000_0 b1000000_1 b1000000_2)), (60023000, [(.trc 2 (b60023000_0.map cGTable))])]⟩
   refine st 2 a0 (nx ?_)
   refine ret_wk (s' := ⟨[(2, (.ptr 2 0))], [(2, [(.tre 10000000)]), (1000000, bGL1Cur (GL1Cur.mk b1000000_0 b1000000_1 b1000000_2)), (10000000, [(.trc 2 (b60023000_0.map cGTable))])]⟩) (tw [.rn [(60023000, 10000000)]] (wr [] (es er_nil) (br_cons (c0 := [(.tre 10000000)]) (by kernel_rfl) (vrs_cons (vr_same (by kernel_rfl) (by kernel_rfl)) (vrs_nil)) (br_cons (c0 := [(.d (.sl 1 (b1000000_0.map cU8))), (vI b1000000_1), (vI b1000000_2)]) (by kernel_rfl) (vrs_cons (vr_same (by kernel_rfl) (by kernel_rfl)) (vrs_cons (vr_same (by kernel_rfl) (by kernel_rfl)) (vrs_cons (vr_same (by kernel_rfl) (by kernel_rfl)) (vrs_nil)))) (bs_ br_nil))))) ?_
   injection h with h; subst h
   exact rb
 · intro F_sL16Right_X_J3 OK_sL16Right_X_J3 x6 y3 x9 y2 y8 b60055001_0 kb60023000_0q r h
   delta mosL16Right_X_J2 acsL16Right_X_J2
   refine so (sx 3 (cg ⟨[], [], [], [], [], [], [], [], [60090001]⟩ h (OK_sColAt _ _).toB fun y15 h => (sx 1 (nx ?_))))
   refine cd h (fun h => ?_) fun h => ?_
   refine oi (sx 3 (bslT_step (l := ([(GCol.mk kb60023000_0q.2.1 y8.1)] : List GCol)) (f := cGCol) (g := cGCol) [] (by kernel_rfl) (fun _ => rfl) (by kernel_rfl) rfl (appTT_step (l := b60055001_0) (m := ([(GCol.mk kb60023000_0q.2.1 y8.1)] : List GCol)) (f := cGCol) [60090001] [54] h (by kernel_rfl) (by kernel_rfl) (by kernel_rfl) (by kernel_rfl) (fun _ => rfl) fun y16 h => (sx 2 (ni (bn ?_))))))
   exact nxs (OK_sL16Right_X_J3 _ _ _ _ _ (_, (_, (_, _))) _ h) (tw [.rn [(60090000, 60107000), (55, 60107001)]] (wr [(4, .old 4)] (es (es (es (eo 4 (es (es (es (es (es er_nil))))))))) (bs_ (bs_ (bs_ (bs_ (bs_ (bs_ br_nil))))))))
   refine ki (bn ?_)
   exact nxs (OK_sL16Right_X_J3 _ _ _ _ _ (_, (_, (_, _))) _ h) (tw [.rn [(60090000, 60107000), (60090001, 60107001)]] (wr [(4, .old 4)] (es (es (es (eo 4 (es (es (es (es (es er_nil))))))))) (bs_ (bs_ (bs_ (bs_ (bs_ (bs_ br_nil))))))))
theorem OK_sL16Right_X_J3 (y1 : Int × GL1Cur) (x6 : Int) (y3 : Int × GL1Cur) (x9 : Int) (y2 : (List UInt8)) (b1000000_0_11 : (List Int)) (kb1000000_1_12q : (Int × (Int × ((List GTable) × (List GCol))))) (r : GCatalog × GL1Cur) (h : sL16Right_X_J3 y1 x6 y3 x9 y2 b1000000_0_11 kb1000000_1_12q = some r) : mosL16Right_X_J3 y1 x6 y3 x9 y2 b1000000_0_11 kb1000000_1_12q r := (OKs_sL16Right_X_J3 y1).1 x6 y3 x9 y2 b1000000_0_11 kb1000000_1_12q r h
theorem OK_sL16Right_X_L1 (y1 : Int × GL1Cur) (x6 : Int) (y3 : Int × GL1Cur) (y2 : (List UInt8)) (b60023000_0 : (List GTable)) (x9 : Int) (kb1000000_0_4 : ((List Int) × (Int × (Int × (List GCol))))) (r : GCatalog × GL1Cur) (h : sL16Right_X_L1 y1 x6 y3 y2 b60023000_0 x9 kb1000000_0_4 = some r) : mosL16Right_X_L1 y1 x6 y3 y2 b60023000_0 x9 kb1000000_0_4 r := (OKs_sL16Right_X_J3 y1).2.1 x6 y3 y2 b60023000_0 x9 kb1000000_0_4 r h
theorem OK_sL16Right_X_L0 (y1 : Int × GL1Cur) (x6 : Int) (b1000000_0 : (List Int)) (b1000000_1 : Int) (b1000000_2 : Int) (b60023000_0 : (List GTable)) (r : GCatalog × GL1Cur) (h : sL16Right_X_L0 y1 x6 b1000000_0 b1000000_1 b1000000_2 b60023000_0 = some r) : mosL16Right_X_L0 y1 x6 b1000000_0 b1000000_1 b1000000_2 b60023000_0 r := (OKs_sL16Right_X_J3 y1).2.2.1 x6 b1000000_0 b1000000_1 b1000000_2 b60023000_0 r h
theorem OK_sL16Right_X_J2 (y1 : Int × GL1Cur) (x6 : Int) (y3 : Int × GL1Cur) (x9 : Int) (y2 : (List UInt8)) (y8 : Int × GL1Cur) (b60055001_0 : (List GCol)) (kb60023000_0q : ((List GTable) × ((List UInt8) × ((List Int) × (Int × Int))))) (r : GCatalog × GL1Cur) (h : sL16Right_X_J2 y1 x6 y3 x9 y2 y8 b60055001_0 kb60023000_0q = some r) : mosL16Right_X_J2 y1 x6 y3 x9 y2 y8 b60055001_0 kb60023000_0q r := (OKs_sL16Right_X_J3 y1).2.2.2 x6 y3 x9 y2 y8 b60055001_0 kb60023000_0q r h
theorem OK_sL16Right_X (p0 : GL1Cur) : FOkB Tryd.prog 28 [(.ptr 1000000 0)] [(1000000, bGL1Cur p0)] (fun (y : GCatalog × GL1Cur) => (.agv [(.tre 10000000)])) (fun (y : GCatalog × GL1Cur) => [(10000000, [(.trc 2 (y.1.tables.map cGTable))]), (1000000, bGL1Cur y.2)]) (sL16Right_X p0) := by
 intro r h
 rw [sL16Right_X] at h
 refine ao trsL16Right_X (so (sx 1 (nx (so (bldv_step (c := [(.nil 2)]) (by kernel_rfl) (by kernel_rfl) rfl (sx 2 (nx (so (bsl_step (l := ([[116], [117], [118]] : List (List UInt8))) (f := cStr) (g := cStr) (by kernel_rfl) (fun _ => rfl) (by kernel_rfl) (sx 1 (nx (so (sx 1 (cg ⟨[(1000000, 1000000)], [], [], [], [], [], [], [], []⟩ h (OK_sL1Below _ _) fun y1 h => (sx 2 (nx (si (so (sx 1 (nx (bi ?_)))))))))))))))))))))
 exact lgs (OK_sL16Right_X_L0 _ _ _ _ _ _ _ h) (tw [.nb 3 0 60023000] (wr [(4, .old 4)] (es (es (es (eo 4 (es (es er_nil)))))) (bs_ (bs_ (bs_ (bs_ br_nil))))))
theorem OKs_sL1Bytes_L0 (p1 : Int) : (∀ (x5 : (List Int)) (x6 : Int) (b1000000_0 : (List Int)) (b1000000_1 : Int) (b1000000_2 : Int) (r : (List Int) × GL1Cur), sL1Bytes_L0 p1 x5 x6 b1000000_0 b1000000_1 b1000000_2 = some r → mosL1Bytes_L0 p1 x5 x6 b1000000_0 b1000000_1 b1000000_2 r) := by
 refine sL1Bytes_L0.partial_correctness p1 (fun x5 x6 b1000000_0 b1000000_1 b1000000_2 r => mosL1Bytes_L0 p1 x5 x6 b1000000_0 b1000000_1 b1000000_2 r) ?_
 · intro F_sL1Bytes_L0 OK_sL1Bytes_L0 x5 x6 b1000000_0 b1000000_1 b1000000_2 r h
   delta mosL1Bytes_L0 acsL1Bytes_L0
   refine loop_unroll (si (so (sx 3 (nx ?_))))
   refine cd h (fun h => ?_) fun h => ?_
   refine ki (xi (si (bi (oi (sx 2 (cg ⟨[(1000000, 1000000)], [], [], [], [], [], [], [], []⟩ h (OK_sL1Byte _) fun y1 h => (sx 1 (bsl_step (l := ([(IntKind.wrap .u8 y1.1)] : List Int)) (f := cU8) (g := cU8) (by kernel_rfl) (fun _ => rfl) (by kernel_rfl) (aq 5 cU8 h fun y2 h => ?_)))))))))
   let a0 : St := ⟨[(5, (.osl 5 5 1 (y2.map cU8))), (18, (.d (.sl 1 (y2.map cU8)))), (17, (.osl 17 5 1 (([(IntKind.wrap .u8 y1.1)] : List Int).map cU8))), (16, (.d (.i .u8 (IntKind.wrap .u8 y1.1)))), (15, (vI y1.1)), (14, (.ptr 1000000 0)), (13, (.d (.sl 1 (x5.map cU8)))), (10, (vB (decide (x6 < p1)))), (9, (vI p1)), (8, (vI x6)), (0, (.ptr 1000000 0)), (1, (vI p1)), (5, (.d (.sl 1 (x5.map cU8)))), (6, (vI x6))], [(1000000, bGL1Cur y1.2)]⟩
   exact st 1 a0 (ni (bn (xi (oi (sx 3 (ni (lbs (OK_sL1Bytes_L0 _ _ _ _ _ _ h) (wr [(5, .old 5)] (es (es (eo 5 (es er_nil)))) (bs_ br_nil)))))))))
   refine ei (te (te (bh (xi (so (sx 2 (nx ?_)))))))
   refine ret_wk (s' := ⟨[(4, (.osl 2000000 5 1 (x5.map cU8)))], [(1000000, bGL1Cur (GL1Cur.mk b1000000_0 b1000000_1 b1000000_2))]⟩) (wr [(2000000, .old 4)] (eo 4 er_nil) (br_cons (c0 := [(.d (.sl 1 (b1000000_0.map cU8))), (vI b1000000_1), (vI b1000000_2)]) (by kernel_rfl) (vrs_cons (vr_same (by kernel_rfl) (by kernel_rfl)) (vrs_cons (vr_same (by kernel_rfl) (by kernel_rfl)) (vrs_cons (vr_same (by kernel_rfl) (by kernel_rfl)) (vrs_nil)))) br_nil)) ?_
   injection h with h; subst h
   exact rb
theorem OK_sL1Bytes_L0 (p1 : Int) (x5 : (List Int)) (x6 : Int) (b1000000_0 : (List Int)) (b1000000_1 : Int) (b1000000_2 : Int) (r : (List Int) × GL1Cur) (h : sL1Bytes_L0 p1 x5 x6 b1000000_0 b1000000_1 b1000000_2 = some r) : mosL1Bytes_L0 p1 x5 x6 b1000000_0 b1000000_1 b1000000_2 r := (OKs_sL1Bytes_L0 p1) x5 x6 b1000000_0 b1000000_1 b1000000_2 r h
theorem OK_sL1Bytes (p0 : GL1Cur) (p1 : Int) : FOkB Tryd.prog 48 [(.ptr 1000000 0), (vI p1)] [(1000000, bGL1Cur p0)] (fun (y : (List Int) × GL1Cur) => (.osl 2000000 5 1 (y.1.map cU8))) (fun (y : (List Int) × GL1Cur) => [(1000000, bGL1Cur y.2)]) (sL1Bytes p0 p1) := by
 intro r h
 rw [sL1Bytes] at h
 exact ao trsL1Bytes (so (sx 1 (nx (so (bsl_step (l := ([] : List Int)) (f := cU8) (g := cU8) (by kernel_rfl) (fun _ => rfl) (by kernel_rfl) (sx 1 (nx (si (so (sx 1 (nx (bi (lgs (OK_sL1Bytes_L0 _ _ _ _ _ _ _ h) (wr [(5, .old 5)] (es (es (eo 5 (es er_nil)))) (bs_ br_nil)))))))))))))))
theorem OK_sL2Words : FOkB Tryd.prog 47 [] [] (fun (y : (List (List UInt8))) => (.osl 2000000 9 1 (y.map cStr))) (fun (y : (List (List UInt8))) => []) (sL2Words) := by
 intro r h
 rw [sL2Words] at h
 refine ao trsL2Words (so (sx 1 (nx (so ?_))))
 refine bsl_step (l := ([[], [83, 69, 76, 69, 67, 84], [68, 73, 83, 84, 73, 78, 67, 84], [70, 82, 79, 77], [74, 79, 73, 78], [79, 78], [87, 72, 69, 82, 69], [79, 82, 68, 69, 82], [66, 89], [65, 83, 67], [68, 69, 83, 67], [76, 73, 77, 73, 84], [65, 83], [65, 78, 68], [79, 82], [78, 79, 84], [73, 83], [73, 78], [66, 69, 84, 87, 69, 69, 78], [69, 88, 73, 83, 84, 83], [78, 85, 76, 76], [84, 82, 85, 69], [70, 65, 76, 83, 69], [73, 78, 83, 69, 82, 84], [73, 78, 84, 79], [86, 65, 76, 85, 69, 83], [85, 80, 68, 65, 84, 69], [83, 69, 84], [68, 69, 76, 69, 84, 69]] : List (List UInt8))) (f := cStr) (g := cStr) (by kernel_rfl) (fun _ => rfl) (by kernel_rfl) ?_
 refine sx 1 (nx ?_)
 refine ret_wk (s' := ⟨[(0, (.osl 2000000 9 1 (([[], [83, 69, 76, 69, 67, 84], [68, 73, 83, 84, 73, 78, 67, 84], [70, 82, 79, 77], [74, 79, 73, 78], [79, 78], [87, 72, 69, 82, 69], [79, 82, 68, 69, 82], [66, 89], [65, 83, 67], [68, 69, 83, 67], [76, 73, 77, 73, 84], [65, 83], [65, 78, 68], [79, 82], [78, 79, 84], [73, 83], [73, 78], [66, 69, 84, 87, 69, 69, 78], [69, 88, 73, 83, 84, 83], [78, 85, 76, 76], [84, 82, 85, 69], [70, 65, 76, 83, 69], [73, 78, 83, 69, 82, 84], [73, 78, 84, 79], [86, 65, 76, 85, 69, 83], [85, 80, 68, 65, 84, 69], [83, 69, 84], [68, 69, 76, 69, 84, 69]] : List (List UInt8)).map cStr)))], []⟩) (wr [(2000000, .old 0)] (eo 0 er_nil) br_nil) ?_
 injection h with h; subst h
 exact rb
theorem OK_sL2Any (p0 : GL1Cur) : FOkB Tryd.prog 30 [(.ptr 1000000 0)] [(1000000, bGL1Cur p0)] (fun (y : (List UInt8) × GL1Cur) => (vS y.1)) (fun (y : (List UInt8) × GL1Cur) => [(1000000, bGL1Cur y.2)]) (sL2Any p0) := by
 intro r h
 rw [sL2Any] at h
 refine ao trsL2Any (so (sx 1 (nx (si (so (sx 1 (cg ⟨[(1000000, 1000000)], [], [], [], [], [], [], [], []⟩ h (OK_sL1Below _ _) fun y1 h => (nx (bi (so (sx 2 (nx ?_))))))))))))
 refine cd h (fun h => ?_) fun h => ?_
 refine so (sx 1 ?_)
 refine bsl_step (l := ([[], [97, 98, 99, 100, 101, 102, 103, 104, 105, 106, 107, 108, 109, 110, 111, 112, 113, 114, 115, 116], [97, 98, 99, 100, 101, 102, 103, 104, 105, 106, 107, 108, 109, 110, 111, 112, 113, 114, 115, 116, 117], [108, 105, 109, 105, 116], [76, 73, 77, 73, 84, 83], [65, 83, 99], [57], [97, 57], [195, 169]] : List (List UInt8))) (f := cStr) (g := cStr) (by kernel_rfl) (fun _ => rfl) (by kernel_rfl) ?_
 refine cg ⟨[(1000000, 1000000)], [], [], [], [], [], [], [], []⟩ h (OK_sL1Pick _ _) fun y2 h => (sx 1 (nx (ri (br (tr ?_)))))
 injection h with h; subst h
 exact rb
 refine so (sx 2 (nx ?_))
 refine cd h (fun h => ?_) fun h => ?_
 refine so (cg ⟨[], [], [], [], [], [(2000000, 12)], [], [12], []⟩ h (OK_sL2Words) fun y3 h => (sx 1 (cg ⟨[(1000000, 1000000)], [], [], [], [], [], [], [], []⟩ h (OK_sL1Below _ _) fun y4 h => (iq h fun y5 h => (sx 2 (nx (ri (br (tr ?_)))))))))
 injection h with h; subst h
 exact rb
 refine so (sx 2 (nx ?_))
 refine cd h (fun h => ?_) fun h => ?_
 refine so (sx 2 (cg ⟨[(1000000, 1000000)], [], [], [], [], [], [], [], []⟩ h (OK_sL1Below _ _) fun y6 h => (cg ⟨[(1000000, 1000000)], [], [], [], [], [(2000000, 22)], [], [22], []⟩ h (OK_sL1Bytes _ _) fun y7 h => (vs (fun (y : (List UInt8)) => (vS y)) h (fun y hy => vop_cbs (l := y7.1) hy (by kernel_rfl) (by kernel_rfl)) fun y8 h => (sx 1 (nx (ri (br (tr ?_)))))))))
 injection h with h; subst h
 exact rb
 refine ki (bn (xi (so (sx 1 (cg ⟨[(1000000, 1000000)], [], [], [], [], [], [], [], []⟩ h (OK_sL2Name _) fun y9 h => (sx 1 (nx (ri ?_))))))))
 injection h with h; subst h
 exact rb
theorem OK_sL16Draw (p0 : GL1Cur) : FOkB Tryd.prog 11 [(.ptr 1000000 0)] [(1000000, bGL1Cur p0)] (fun (y : GCatalog × GL1Cur) => (vGCatalog y.1)) (fun (y : GCatalog × GL1Cur) => [(1000000, bGL1Cur y.2)]) (sL16Draw p0) := by
 intro r h
 rw [sL16Draw] at h
 refine ao trsL16Draw (so ?_)
 let a0 : St := ⟨[(2, (.ptr 2 0)), (0, (.ptr 1000000 0))], [(2, [(.nil 2)]), (1000000, bGL1Cur p0)]⟩
 refine st 1 a0 (nx (so (sx 1 (cg ⟨[(1000000, 1000000)], [], [], [], [], [], [(10000000, 40060000)], [], []⟩ h (OK_sL16Right_X _) fun y1 h => (sx 2 (nx (si (so (sx 1 (cg ⟨[(1000000, 1000000)], [], [], [], [], [], [], [], []⟩ h (OK_sL1Below _ _) fun y2 h => (nx (bi (so (sx 2 (nx ?_)))))))))))))))
 refine cd h (fun h => ?_) fun h => ?_
 refine dops_tw [.own 40060000] (s' := ⟨[(8, (vB (decide (y2.1 = 0)))), (9, (vB (decide (y2.1 = 0)))), (7, (vI y2.1)), (6, (.ptr 1000000 0)), (3, (.ptr 3 0)), (5, (.agv [(.osl 40060000 1000000000 2 (y1.1.tables.map cGTable))])), (4, (.ptr 1000000 0)), (2, (.ptr 2 0)), (0, (.ptr 1000000 0))], [(3, [(.osl 40060000 1000000000 2 (y1.1.tables.map cGTable))]), (40060000, [.trd]), (2, [(.nil 2)]), (1000000, bGL1Cur y2.2)]⟩) (by kernel_rfl) ?_
 refine dops_in (dsx 4 (diq h fun y3 h => (dsx 1 (dbsl_step (l := ([y3] : List GTable)) (f := cGTable) (g := cGTable) (by kernel_rfl) (fun _ => rfl) (dappx_step (t := 40060000) (l := y1.1.tables) (m := ([y3] : List GTable)) (f := cGTable) [5, 11, 13] [3] h (by kernel_rfl) (by kernel_rfl) (by kernel_rfl) (fun _ => rfl) fun y4 h => (dsx 2 (dnil_in (by kernel_rfl) (by kernel_rfl) (bn ?_))))))))
 exact nxs (OK_sL16Draw_J0 _ _ _ _ _ h) (wr [] (es (es er_nil)) (bs_ (br_cons (c0 := [(.osl 17 1000000000 2 (y4.map cGTable))]) (by kernel_rfl) (vrs_cons (vr_weak (by kernel_rfl) (by kernel_rfl)) (vrs_nil)) (bs_ br_nil))))
 refine so (sx 2 (nx ?_))
 refine cd h (fun h => ?_) fun h => ?_
 refine dops_in (dsx 4 (diat_step (n := 40060000) (k := .i64) (i := 0) (l := y1.1.tables) (f := cGTable) (g := cGTable) [20004100] h (by kernel_rfl) (by kernel_rfl) (by kernel_rfl) (fun _ => rfl) (by kernel_rfl) (fun _ => rfl) fun y5 hiy5 h => (dsx 1 ?_)))
 refine dp_step (v' := (.tre 20004100)) rfl rfl (vop_ldT (n := 40060000) (sz := 2) (i := (0 : Int).toNat) (off := 1) (l := y1.1.tables.map cGTable) (c := [(vS y5.name), (.tre 20004100)]) (by kernel_rfl) (by kernel_rfl) (by kernel_rfl)) (dsx 1 (dcg ⟨[(1000000, 1000000)], [], [], [], [], [], [], [], []⟩ [] [] h (OK_sL2Any _) fun y6 h => (dsx 1 ?_)))
 refine dcg ⟨[(1000000, 1000000)], [], [], [], [], [], [], [], []⟩ [] [] h (OK_sL1Below _ _) fun y7 h => (dsx 1 (dbslT_step (l := ([(GCol.mk y6.1 y7.1)] : List GCol)) (f := cGCol) (g := cGCol) [] (by kernel_rfl) (fun _ => rfl) (by kernel_rfl) rfl ?_))
 refine dappTT_step (l := y5.cols) (m := ([(GCol.mk y6.1 y7.1)] : List GCol)) (f := cGCol) [20004100] [33] h (by kernel_rfl) (by kernel_rfl) (by kernel_rfl) (by kernel_rfl) (fun _ => rfl) fun y8 h => (diao_step (n := 40060000) (k := .i64) (i := 0) (l := y1.1.tables.map cGTable) (c := [(vS y5.name), (.tre 20004100)]) (by kernel_rfl) (by kernel_rfl) (idx_get hiy5).1 (by kernel_rfl) rfl (dsx 1 ?_))
 refine dstt_step (n := 40060000) (sz := 2) (i := (0 : Int).toNat) (off := 1) (l := y1.1.tables.map cGTable) (c := [(vS y5.name), (.tre 20004100)]) (by kernel_rfl) (by kernel_rfl) (by kernel_rfl) rfl (dnil_in (by kernel_rfl) (by kernel_rfl) (bn ?_))
 exact nxs (OK_sL16Draw_J0 _ _ _ _ _ h) (tw [.clo 40060000, .frz [40060000]] (wr [] (es (es er_nil)) (bs_ (br_cons (c0 := [(.d (.sl 2 ((y1.1.tables.map cGTable).set (0 : Int).toNat (cGTable (GTable.mk y5.name y8)))))]) (by kernel_rfl) (vrs_cons (vr_same (frz_map (l := y1.1.tables) (k := (0 : Int).toNat) (x := (GTable.mk y5.name y8)) (fun _ => rfl)) (by kernel_rfl)) (vrs_nil)) (bs_ br_nil)))))
 refine so (sx 2 (nx ?_))
 refine cd h (fun h => ?_) fun h => ?_
 refine dops_in (dsx 3 (dcg ⟨[(1000000, 1000000)], [], [], [], [], [], [], [], []⟩ [] [] h (OK_sL2Any _) fun y9 h => (diat_step (n := 40060000) (k := .i64) (i := 0) (l := y1.1.tables) (f := cGTable) (g := cGTable) [20006400] h (by kernel_rfl) (by kernel_rfl) (by kernel_rfl) (fun _ => rfl) (by kernel_rfl) (fun _ => rfl) fun y10 hiy10 h => (dsx 1 ?_))))
 refine dstt_step (n := 40060000) (sz := 2) (i := (0 : Int).toNat) (off := 0) (l := y1.1.tables.map cGTable) (c := [(vS y10.name), (.tre 20006400)]) (by kernel_rfl) (by kernel_rfl) (by kernel_rfl) rfl (dnil_in (by kernel_rfl) (by kernel_rfl) (bn ?_))
 exact nxs (OK_sL16Draw_J0 _ _ _ _ _ h) (tw [.clo 40060000, .frz [40060000]] (wr [] (es (es er_nil)) (bs_ (br_cons (c0 := [(.d (.sl 2 ((y1.1.tables.map cGTable).set (0 : Int).toNat (cGTable (GTable.mk y9.1 y10.cols)))))]) (by kernel_rfl) (vrs_cons (vr_same (frz_map (l := y1.1.tables) (k := (0 : Int).toNat) (x := (GTable.mk y9.1 y10.cols)) (fun _ => rfl)) (by kernel_rfl)) (vrs_nil)) (bs_ br_nil)))))
 refine so ?_
 let a1 : St := ⟨(45, (vB (decide (y2.1 = 3)))) :: (46, (vB (decide (y2.1 = 3)))) :: (37, (vB (decide (y2.1 = 2)))) :: (38, (vB (decide (y2.1 = 2)))) :: (19, (vB (decide (y2.1 = 1)))) :: (20, (vB (decide (y2.1 = 1)))) :: (8, (vB (decide (y2.1 = 0)))) :: (9, (vB (decide (y2.1 = 0)))) :: (7, (vI y2.1)) :: (6, (.ptr 1000000 0)) :: (3, (.ptr 3 0)) :: (5, (.agv [(.tre 40060000)])) :: (4, (.ptr 1000000 0)) :: a0.env, [(3, [(.tre 40060000)]), (40060000, [(.trc 2 (y1.1.tables.map cGTable))]), (2, [(.nil 2)]), (1000000, bGL1Cur y2.2)]⟩
 refine st 2 a1 (nx ?_)
 refine cd h (fun h => ?_) fun h => ?_
 refine oi (sx 2 (iat_step (n := 40060000) (k := .i64) (i := 0) (l := y1.1.tables) (f := cGTable) (g := cGTable) [20007500] h (by kernel_rfl) (by kernel_rfl) (by kernel_rfl) (fun _ => rfl) (by kernel_rfl) (fun _ => rfl) fun y11 hiy11 h => (sx 1 ?_)))
 refine stt_step (n := 40060000) (sz := 2) (i := (0 : Int).toNat) (off := 1) (l := y1.1.tables.map cGTable) (c := [(vS y11.name), (.tre 20007500)]) (by kernel_rfl) (by kernel_rfl) (by kernel_rfl) rfl (ni (bn ?_))
 exact nxs (OK_sL16Draw_J0 _ _ _ _ _ h) (tw [.clo 40060000, .frz [40060000]] (wr [] (es (es er_nil)) (bs_ (br_cons (c0 := [(.d (.sl 2 ((y1.1.tables.map cGTable).set (0 : Int).toNat (cGTable (GTable.mk y11.name ([] : List GCol))))))]) (by kernel_rfl) (vrs_cons (vr_same (frz_map (l := y1.1.tables) (k := (0 : Int).toNat) (x := (GTable.mk y11.name ([] : List GCol))) (fun _ => rfl)) (by kernel_rfl)) (vrs_nil)) (bs_ br_nil)))))
 refine so (sx 2 (nx ?_))
 refine cd h (fun h => ?_) fun h => ?_
 exact oi (sx 2 (ni (bn (nxs (OK_sL16Draw_J0 _ _ _ _ _ h) (wr [] (es (es er_nil)) (bs_ (br_cons (c0 := [(.nil 2)]) (by kernel_rfl) (vrs_cons (vr_weak (by kernel_rfl) (by kernel_rfl)) (vrs_nil)) (bs_ br_nil))))))))
 refine so (sx 2 (nx ?_))
 refine cd h (fun h => ?_) fun h => ?_
 exact bi (lgs (OK_sL16Draw_L1 _ _ _ _ _ h) (tw [.rn [(40060000, 60092000)]] (wr [] (es (es (es er_nil))) (bs_ (bs_ (bs_ (bs_ br_nil)))))))
 exact ki (bn (nxs (OK_sL16Draw_J0 _ _ _ _ _ h) (tw [.frz [40060000]] (wr [] (es (es er_nil)) (bs_ (bs_ (bs_ br_nil)))))))
theorem OKs_sL1New_L0 (p0 : (List Int)) : (∀ (x3 : Int) (x4 : Int) (r : GL1Cur), sL1New_L0 p0 x3 x4 = some r → mosL1New_L0 p0 x3 x4 r) := by
 refine sL1New_L0.partial_correctness p0 (fun x3 x4 r => mosL1New_L0 p0 x3 x4 r) ?_
 · intro F_sL1New_L0 OK_sL1New_L0 x3 x4 r h
   delta mosL1New_L0 acsL1New_L0
   refine loop_unroll (si (so (sx 2 (lqf cU8 p0 (sx 2 (gq 0 (gq 1 (pkA h fun y1 h => (nx ?_)))))))))
   refine cd h (fun h => ?_) fun h => ?_
   exact ki (xi (si (bi (oi (sx 4 (iqf cU8 h fun y2 h => (sx 6 (ni (bn (xi (oi (sx 3 (ni (lbs (OK_sL1New_L0 _ _ _ h) (wr [] (es (es (es er_nil))) br_nil)))))))))))))))
   refine ei (te (te (bh (xi (so (sx 5 (nx (ri ?_))))))))
   injection h with h; subst h
   exact rb
theorem OK_sL1New_L0 (p0 : (List Int)) (x3 : Int) (x4 : Int) (r : GL1Cur) (h : sL1New_L0 p0 x3 x4 = some r) : mosL1New_L0 p0 x3 x4 r := (OKs_sL1New_L0 p0) x3 x4 r h
theorem OK_sL1New (p0 : (List Int)) : FOkB Tryd.prog 12 [(.d (.sl 1 (p0.map cU8)))] [] (fun (y : GL1Cur) => (.ptr 31 0)) (fun (y : GL1Cur) => [(31, bGL1Cur y)]) (sL1New p0) := by
 intro r h
 rw [sL1New] at h
 exact ao trsL1New (so (sx 1 (nx (so (sx 1 (lqf cU8 p0 (sx 2 (nx (si (so (sx 1 (nx (bi (lgs (OK_sL1New_L0 _ _ _ _ h) (wr [] (es (es (es er_nil))) br_nil)))))))))))))))
theorem OK_sDrawEmptyDb (p0 : (List Int)) : FOk Tryd.prog 5 [(.d (.sl 1 (p0.map cU8)))] (fun y => (vGCatalog y)) (sDrawEmptyDb p0) := by
 intro r h
 rw [sDrawEmptyDb] at h
 refine ao trsDrawEmptyDb (so (sx 1 (nx (so (sx 1 (cg ⟨[], [], [], [], [], [], [(31, 4)], [], []⟩ h (OK_sL1New _) fun y1 h => (cg ⟨[(1000000, 4)], [], [], [], [], [], [], [], []⟩ h (OK_sL16Draw _) fun y2 h => (sx 1 (nx (ri ?_))))))))))
 injection h with h; subst h
 exact rp
theorem OK_wBig (p0 : (List Int)) : FOk Tryd.prog 4 [(.d (.sl 1 (p0.map cU8)))] (fun y => (vB y)) (wBig p0) := by
 intro r h
 rw [wBig] at h
 refine ao trwBig (so (sx 1 (nx (so (sx 1 (lqf cU8 p0 (sx 2 (nx (ri ?_)))))))))
 injection h with h; subst h
 exact rp
theorem OK_wFnEmptyDb (p0 : (List Int)) : FOk Tryd.prog 3 [(.d (.sl 1 (p0.map cU8)))] (fun y => (vB y)) (wFnEmptyDb p0) := by
 intro r h
 rw [wFnEmptyDb] at h
 refine ao trwFnEmptyDb (so (sx 1 (nx (si (so (sx 1 (cs h (OK_wBig _) fun y1 h => (nx ?_))))))))
 refine cd h (fun h => ?_) fun h => ?_
 refine so (sx 1 (nx (ri (tr ?_))))
 injection h with h; subst h
 exact rp
 refine ki (xi (so (sx 1 (cs h (OK_sDrawEmptyDb _) fun y2 h => (sx 2 (nx (so (sx 1 (cs h (OK_iEmptyDb _) fun y3 h => (sx 2 (nx (si (dops_in (dsx 2 (dcs h (OK_iDbOk _ _) fun y4 h => (dsx 1 (dcs h (OK_sCatalogOk _) fun y5 h => (dsx 2 (dgq 0 (dgq 1 ?_))))))))))))))))))))
 refine dgp_step (p := true) (b := (y4 == y5)) (v' := (vI (ln y3.tables))) (by kernel_rfl) rfl rfl (fun hc => vop_len (sz := 1) (l := y3.tables) (f := cGData) (Eq.trans (b := ([(true && ((y4 == y5) == true))] : List Bool).all id) (by kernel_rfl) (all_c hc rfl)) (by kernel_rfl)) (dgq 0 (dgq 1 ?_))
 refine dgp_step (p := true) (b := (y4 == y5)) (v' := (vI (ln y2.tables))) (by kernel_rfl) rfl rfl (fun hc => vop_len (sz := 2) (l := y2.tables) (f := cGTable) (Eq.trans (b := ([(true && ((y4 == y5) == true))] : List Bool).all id) (by kernel_rfl) (all_c hc rfl)) (by kernel_rfl)) (dgq 2 (dpkA h fun y6 h => (dsx 1 (dgq 0 (dgq 0 (dgc 2 h (OK_iSameDb _ _) fun y7 h => (dpkA h fun y8 h => (dsx 1 ?_))))))))
 refine dgc 0 h (OK_iRowsText _) fun y9 h => (dgq 1 (dpkA h fun y10 h => (dsx 1 (dnil_in (by kernel_rfl) (by kernel_rfl) (xi (ri ?_))))))
 injection h with h; subst h
 exact rp
theorem law_wFnEmptyDb (hp : ∀ (x0 : (List Int)) (_ : (okL okU8) x0), wFnEmptyDb x0 = some true) (ls : List (List D)) (hw : WtA Tryd.prog [22] ls) (hok : ∀ l ∈ ls, ∀ x ∈ l, OkD x) : ACalls Tryd.prog 3 (argsV Tryd.prog [22] ls) [] fun x _ => x = .d (.b true) := by
  rcases hw with _ | ⟨h0, hw⟩
  cases hw
  obtain ⟨x0, rfl⟩ := de22 h0
  have a0 : argV Tryd.prog 22 ((cSl 1 cU8) x0) = (.d (.sl 1 (x0.map cU8))) := by kernel_rfl
  have k0 : ∀ d ∈ (cSl 1 cU8) x0, OkD d := hok _ (by simp)
  simp only [argsV, a0]
  exact OK_wFnEmptyDb x0 true (hp x0 (ko_l _ (fun y hy => ko_u8 _ hy) k0))
end Go.Proofs.YtflhmnfmihkbmabDoor
