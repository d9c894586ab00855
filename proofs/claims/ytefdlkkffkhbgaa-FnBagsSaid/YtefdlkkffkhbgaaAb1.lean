/- Abstract data and values over the model's memory: definitions, and that what is represented stays represented when memory grows. -/
import Derived.WalkKit
import Derived.Lib.ItoaLen
import Derived.Lib.ConvBytes
namespace Go.Ab
open Go Go.RowKit

/-- Plain data that fills one cell: a bool, an integer, a string, or a slice (cells a element, the elements). -/
inductive D where
  | b (x : Bool)
  | i (k : IntKind) (n : Int)
  | s (x : ByteArray)
  | sl (sz : Nat) (l : List (List D))
  deriving Inhabited

/-- What is known of memory for good: of each block its first cells. -/
abbrev Mem := Nat → List Value
def Mem.le (S S' : Mem) : Prop := ∀ b, S b <+: S' b
theorem Mem.le_refl (S : Mem) : S.le S := fun _ => List.prefix_refl _
theorem Mem.le_trans {A B C : Mem} (h : A.le B) (k : B.le C) : A.le C := fun b => (h b).trans (k b)

mutual
inductive RepD (S : Mem) : Value → D → Prop
  | b (x : Bool) : RepD S (.bool x) (.b x)
  | i (k : IntKind) (n : Int) : k.min ≤ n → n ≤ k.max → RepD S (.int k n) (.i k n)
  | s (x : ByteArray) : x.size ≤ maxLen → RepD S (.string x) (.s x)
  | nil (sz : Nat) : RepD S (.slice none 0 0) (.sl sz [])
  | emp (a : Addr) (cap sz : Nat) : cap ≤ maxLen → RepD S (.slice (some a) 0 cap) (.sl sz [])
  | sl (b off len cap sz : Nat) (l : List (List D)) (vs : List Value) : len = l.length → len ≤ cap → cap ≤ maxLen → vs.length = len * sz →
      vs <+: (S b).drop off → (∀ e ∈ l, e.length = sz) → RepDs S vs l.flatten → RepD S (.slice (some ⟨b, off, none⟩) len cap) (.sl sz l)
inductive RepDs (S : Mem) : List Value → List D → Prop
  | nil : RepDs S [] []
  | cons {v : Value} {x : D} {vs : List Value} {xs : List D} : RepD S v x → RepDs S vs xs → RepDs S (v :: vs) (x :: xs)
end

theorem prefix_drop {α : Type} {a b : List α} (h : a <+: b) (n : Nat) : a.drop n <+: b.drop n := by
  obtain ⟨t, rfl⟩ := h
  rw [List.drop_append]
  exact List.prefix_append _ _

mutual
theorem RepD.mono {S S' : Mem} (hS : S.le S') : ∀ {v : Value} {x : D}, RepD S v x → RepD S' v x
  | _, _, .b x => .b x
  | _, _, .i k n h h' => .i k n h h'
  | _, _, .s x h => .s x h
  | _, _, .nil sz => .nil sz
  | _, _, .emp a cap sz h => .emp a cap sz h
  | _, _, .sl b off len cap sz l vs h1 h2 h3 h4 h5 h6 h7 => .sl b off len cap sz l vs h1 h2 h3 h4 (h5.trans (prefix_drop (hS b) off)) h6 (RepDs.mono hS h7)
theorem RepDs.mono {S S' : Mem} (hS : S.le S') : ∀ {v : List Value} {x : List D}, RepDs S v x → RepDs S' v x
  | _, _, .nil => .nil
  | _, _, .cons h t => .cons (RepD.mono hS h) (RepDs.mono hS t)
end

section lists
variable {S : Mem}
theorem RepDs.length {vs : List Value} {xs : List D} (h : RepDs S vs xs) : vs.length = xs.length := by
  induction xs generalizing vs with
  | nil => cases h; rfl
  | cons x xs ih => cases h with | cons _ t => simp [ih t]
theorem RepDs.append {vs us : List Value} {xs ys : List D} (h : RepDs S vs xs) (k : RepDs S us ys) : RepDs S (vs ++ us) (xs ++ ys) := by
  induction xs generalizing vs with
  | nil => cases h; exact k
  | cons x xs ih => cases h with | cons a t => exact .cons a (ih t)
theorem RepDs.drop {vs : List Value} {xs : List D} (h : RepDs S vs xs) (n : Nat) : RepDs S (vs.drop n) (xs.drop n) := by
  induction n generalizing vs xs with
  | zero => simpa using h
  | succ n ih => cases h with | nil => exact .nil | cons _ t => exact ih t
theorem RepDs.take {vs : List Value} {xs : List D} (h : RepDs S vs xs) (n : Nat) : RepDs S (vs.take n) (xs.take n) := by
  induction n generalizing vs xs with
  | zero => simpa using RepDs.nil
  | succ n ih => cases h with | nil => exact .nil | cons a t => exact .cons a (ih t)
theorem RepDs.get {vs : List Value} {xs : List D} (h : RepDs S vs xs) {n : Nat} {x : D} (hx : xs[n]? = some x) : ∃ v, vs[n]? = some v ∧ RepD S v x := by
  induction n generalizing vs xs with
  | zero => cases h with | nil => simp at hx | cons a t => simp at hx; exact ⟨_, rfl, hx ▸ a⟩
  | succ n ih => cases h with | nil => simp at hx | cons a t => simpa using ih t (by simpa using hx)
theorem RepDs.set {vs : List Value} {xs : List D} (h : RepDs S vs xs) (n : Nat) {v : Value} {x : D} (hv : RepD S v x) : RepDs S (vs.set n v) (xs.set n x) := by
  induction n generalizing vs xs with
  | zero => cases h with | nil => exact .nil | cons a t => exact .cons hv t
  | succ n ih => cases h with | nil => exact .nil | cons a t => exact .cons a (ih t)
/-- A represented value fills one cell. -/
theorem RepD.oneCell {v : Value} {x : D} (h : RepD S v x) : v.oneCell' = true ∧ v.cells = #[v] := by cases h <;> exact ⟨rfl, rfl⟩
theorem RepDs.oneCell {vs : List Value} {xs : List D} (h : RepDs S vs xs) : ∀ u ∈ vs, u.oneCell' = true := by
  induction xs generalizing vs with
  | nil => cases h; simp
  | cons x xs ih => cases h with | cons a t => intro u hu; rcases List.mem_cons.1 hu with rfl | hu; exact a.oneCell.1; exact ih t u hu
end lists

/-- numbers from here on: a method value of the function that is so much less -/
abbrev MVB : Nat := 1000000
def mvc (f : Nat) : Nat := f + MVB
/-- Abstract values: what a temporary may hold. -/
inductive V where
  /-- nothing is known -/
  | top
  /-- the undefined value of an operation that was passed over -/
  | und
  | d (x : D)
  | agg (l : List D)
  /-- the nil slice; cells an element -/
  | nil (sz : Nat)
  /-- a slice that nobody else appends to; 't' names the right to append; 'e' the element type -/
  | osl (t : Nat) (e : TypeId) (sz : Nat) (l : List (List D))
  /-- a pointer to cell 'off' of the box 'n' -/
  | ptr (n off : Nat)
  /-- a slice of elements of a box, from its element 'o' on, that may be written -/
  | msl (n sz o len cap : Nat)
  /-- a pointer to cells that never change -/
  | rp (l : List D)
  | np
  | fn (f : FuncId) (caps : List V)
  | tup (l : List V)
  /-- a struct whose cells are known one by one -/
  | agv (l : List V)
  /-- nil, or the pointer to this box -/
  | bp (n : Nat) (U : TypeId)
  /-- 'v' where 'c' is true, undefined else -/
  | ite (c : Bool) (v : V)
  /-- the slice that heads the tree 'n' -/
  | tre (n : Nat)
  /-- a pointer to cell 'off' of row i of the tree n, sz cells a row -/
  | trp (n sz i off : Nat)
  /-- marks of what is known of a tree: all its rows; that row i is open: its cells follow; nothing -/
  | trc (sz : Nat) (l : List (List D))
  | tro (sz i : Nat) (l : List (List D))
  | trd
  /-- a row that nobody else sees, its cells data -/
  | trs (sz : Nat) (l : List (List D))
  deriving Inhabited

/-- An owned row: the element type, its cells, the slice's value. -/
structure Own where
  e : TypeId
  sz : Nat
  v : Value

structure Ctx where
  S : Mem
  /-- the block of a box, its type; of a tree: the slice that heads it -/
  mt : Nat → Nat × TypeId × Value
  /-- the owned row of a token -/
  o : Nat → Option Own
  /-- the blocks of a box or a tree -/
  bl : Nat → List Nat
abbrev Ctx.m (κ : Ctx) (n : Nat) : Nat := (κ.mt n).1
abbrev Ctx.ty (κ : Ctx) (n : Nat) : TypeId := (κ.mt n).2.1
abbrev Ctx.hv (κ : Ctx) (n : Nat) : Value := (κ.mt n).2.2
theorem Ctx.mm {κ κ' : Ctx} {n k : Nat} (h : κ'.mt n = κ.mt k) : κ'.m n = κ.m k := congrArg Prod.fst h

/-- fills one cell -/
def V.one : V → Bool
  | .d _ | .nil _ | .osl .. | .ptr .. | .np | .bp .. | .rp _ | .fn .. | .msl .. | .trp .. | .tre _ => true
  | _ => false
/-- tells of a tree -/
def V.mark : V → Bool
  | .trc .. | .trs .. | .tro .. | .trd => true
  | _ => false
mutual
/-- holds the right to append nowhere -/
def V.still : V → Bool
  | .osl .. => false
  | .fn _ l => V.stills l
  | .tup l => V.stills l
  | .agv l => V.stills l
  | .ite _ v => v.still
  | _ => true
def V.stills : List V → Bool
  | [] => true
  | v :: l => v.still && V.stills l
end

mutual
inductive RepV (κ : Ctx) : Value → V → Prop
  | top (v : Value) : RepV κ v .top
  | und : RepV κ undef .und
  | d {v : Value} {x : D} : RepD κ.S v x → RepV κ v (.d x)
  | agg {cs : List Value} {l : List D} : RepDs κ.S cs l → RepV κ (.agg cs.toArray) (.agg l)
  | nil (sz : Nat) : RepV κ (.slice none 0 0) (.nil sz)
  | osl {v : Value} {t : Nat} {e : TypeId} {sz : Nat} {l : List (List D)} : κ.o t = some ⟨e, sz, v⟩ → RepD κ.S v (.sl sz l) → RepV κ v (.osl t e sz l)
  | ptr (n off : Nat) : RepV κ (.pointer (some ⟨κ.m n, off, none⟩)) (.ptr n off)
  | msl {n sz o len cap : Nat} : len ≤ cap → cap ≤ maxLen → RepV κ (.slice (some ⟨κ.m n, o * sz, none⟩) len cap) (.msl n sz o len cap)
  | rp {b off : Nat} {vs : List Value} {l : List D} : vs <+: (κ.S b).drop off → RepDs κ.S vs l → RepV κ (.pointer (some ⟨b, off, none⟩)) (.rp l)
  | np : RepV κ (.pointer none) .np
  | fn {f : FuncId} {cs : List Value} {l : List V} : f < MVB → RepVs κ cs l → RepV κ (.func (.func f) #[] cs.toArray) (.fn f l)
  | fnm {f : FuncId} {cs : List Value} {l : List V} : RepVs κ cs l → RepV κ (.func (.func f) cs.toArray #[]) (.fn (mvc f) l)
  | tup {cs : List Value} {l : List V} : RepVs κ cs l → RepV κ (.tuple cs.toArray) (.tup l)
  | agv {cs : List Value} {l : List V} : RepVs κ cs l → RepV κ (.agg cs.toArray) (.agv l)
  | bp0 {n : Nat} {U : TypeId} : κ.ty n = U → RepV κ (.pointer none) (.bp n U)
  | bp1 {n : Nat} {U : TypeId} : κ.ty n = U → RepV κ (.pointer (some ⟨κ.m n, 0, none⟩)) (.bp n U)
  | yes {v : Value} {x : V} : RepV κ v x → RepV κ v (.ite true x)
  | no {x : V} : RepV κ undef (.ite false x)
  | tre {n : Nat} {p : Option Addr} {len cap : Nat} : κ.hv n = .slice p len cap → RepV κ (.slice p len cap) (.tre n)
  | trp (n sz i off : Nat) : RepV κ (.pointer (some ⟨κ.m n, i * sz + off, none⟩)) (.trp n sz i off)
inductive RepVs (κ : Ctx) : List Value → List V → Prop
  | nil : RepVs κ [] []
  | cons {v : Value} {x : V} {vs : List Value} {xs : List V} : RepV κ v x → RepVs κ vs xs → RepVs κ (v :: vs) (x :: xs)
end

/- the boxes that a value points to lie where they lay; the rights that it bears are there -/
mutual
def V.fits (κ κ' : Ctx) : V → Prop
  | .ptr n _ => κ'.mt n = κ.mt n
  | .msl n _ _ _ _ => κ'.mt n = κ.mt n
  | .osl t _ _ _ => κ'.o t = κ.o t
  | .fn _ l => V.fitss κ κ' l
  | .tup l => V.fitss κ κ' l
  | .agv l => V.fitss κ κ' l
  | .bp n _ => κ'.mt n = κ.mt n
  | .tre n => κ'.mt n = κ.mt n
  | .trp n _ _ _ => κ'.mt n = κ.mt n
  | .ite _ v => v.fits κ κ'
  | _ => True
def V.fitss (κ κ' : Ctx) : List V → Prop
  | [] => True
  | v :: l => v.fits κ κ' ∧ V.fitss κ κ' l
end

mutual
theorem RepV.move {κ κ' : Ctx} (hS : κ.S.le κ'.S) : ∀ {v : Value} {x : V}, RepV κ v x → x.fits κ κ' → RepV κ' v x
  | _, _, .top v, _ => .top v
  | _, _, .und, _ => .und
  | _, _, .d h, _ => .d (h.mono hS)
  | _, _, .agg h, _ => .agg (h.mono hS)
  | _, _, .nil sz, _ => .nil sz
  | _, _, .osl (t := t) h1 h2, hf => by
      have e : κ'.o t = κ.o t := hf
      exact .osl (e.trans h1) (h2.mono hS)
  | _, _, .ptr n off, hf => by
      have h := RepV.ptr (κ := κ') n off
      have e : κ'.m n = κ.m n := congrArg Prod.fst hf
      rwa [e] at h
  | _, _, .msl (n := n) (sz := sz) (o := o) h1 h2, hf => by
      have h := RepV.msl (κ := κ') (n := n) (sz := sz) (o := o) h1 h2
      have e : κ'.m n = κ.m n := congrArg Prod.fst hf
      rwa [e] at h
  | _, _, .rp h1 h2, _ => .rp (h1.trans (prefix_drop (hS _) _)) (h2.mono hS)
  | _, _, .np, _ => .np
  | _, _, .fn k h, hf => .fn k (RepVs.move hS h hf)
  | _, _, .fnm h, hf => .fnm (RepVs.move hS h hf)
  | _, _, .tup h, hf => .tup (RepVs.move hS h hf)
  | _, _, .agv h, hf => .agv (RepVs.move hS h hf)
  | _, _, .bp0 h, hf => .bp0 (by rw [show κ'.ty _ = κ.ty _ from congrArg (fun p => p.2.1) hf]; exact h)
  | _, _, .bp1 (n := n) (U := U) h, hf => by
    have k := RepV.bp1 (κ := κ') (n := n) (U := U) (by rw [show κ'.ty n = κ.ty n from congrArg (fun p => p.2.1) hf]; exact h)
    rw [show κ'.m n = κ.m n from congrArg Prod.fst hf] at k
    exact k
  | _, _, .yes h, hf => .yes (RepV.move hS h hf)
  | _, _, .no, _ => .no
  | _, _, .tre h, hf => .tre ((congrArg (fun p => p.2.2) hf : κ'.hv _ = κ.hv _).trans h)
  | _, _, .trp n sz i off, hf => by
    have h := RepV.trp (κ := κ') n sz i off
    rw [show κ'.m n = κ.m n from congrArg Prod.fst hf] at h
    exact h
theorem RepVs.move {κ κ' : Ctx} (hS : κ.S.le κ'.S) : ∀ {v : List Value} {x : List V}, RepVs κ v x → V.fitss κ κ' x → RepVs κ' v x
  | _, _, .nil, _ => .nil
  | _, _, .cons h t, hf => .cons (RepV.move hS h hf.1) (RepVs.move hS t hf.2)
end

section
variable {κ : Ctx}
theorem RepVs.length {vs : List Value} {xs : List V} (h : RepVs κ vs xs) : vs.length = xs.length := by
  induction xs generalizing vs with
  | nil => cases h; rfl
  | cons x xs ih => cases h with | cons _ t => simp [ih t]
theorem RepVs.append {vs us : List Value} {xs ys : List V} (h : RepVs κ vs xs) (k : RepVs κ us ys) : RepVs κ (vs ++ us) (xs ++ ys) := by
  induction xs generalizing vs with
  | nil => cases h; exact k
  | cons x xs ih => cases h with | cons a t => exact .cons a (ih t)
theorem RepVs.get {vs : List Value} {xs : List V} (h : RepVs κ vs xs) {n : Nat} {x : V} (hx : xs[n]? = some x) : ∃ v, vs[n]? = some v ∧ RepV κ v x := by
  induction n generalizing vs xs with
  | zero => cases h with | nil => simp at hx | cons a t => simp at hx; exact ⟨_, rfl, hx ▸ a⟩
  | succ n ih => cases h with | nil => simp at hx | cons a t => simpa using ih t (by simpa using hx)
theorem RepVs.set {vs : List Value} {xs : List V} (h : RepVs κ vs xs) (n : Nat) {v : Value} {x : V} (hv : RepV κ v x) : RepVs κ (vs.set n v) (xs.set n x) := by
  induction n generalizing vs xs with
  | zero => cases h with | nil => exact .nil | cons a t => exact .cons hv t
  | succ n ih => cases h with | nil => exact .nil | cons a t => exact .cons a (ih t)
theorem RepVs.drop {vs : List Value} {xs : List V} (h : RepVs κ vs xs) (n : Nat) : RepVs κ (vs.drop n) (xs.drop n) := by
  induction n generalizing vs xs with
  | zero => simpa using h
  | succ n ih => cases h with | nil => exact .nil | cons _ t => exact ih t
theorem RepVs.take {vs : List Value} {xs : List V} (h : RepVs κ vs xs) (n : Nat) : RepVs κ (vs.take n) (xs.take n) := by
  induction n generalizing vs xs with
  | zero => simpa using RepVs.nil
  | succ n ih => cases h with | nil => exact .nil | cons a t => exact .cons a (ih t)
end

/-- A value seen as plain data: rights to append are given up. -/
def V.asD : V → Option D
  | .d x => some x
  | .osl _ _ sz l => some (.sl sz l)
  | .nil sz => some (.sl sz [])
  | _ => none
theorem RepV.asD {κ : Ctx} {v : Value} {x : V} {y : D} (h : RepV κ v x) (hx : x.asD = some y) : RepD κ.S v y := by
  cases h <;> simp [V.asD] at hx
  · subst hx; assumption
  · subst hx; exact .nil _
  · subst hx; assumption
theorem RepV.toD {κ : Ctx} {v : Value} {x : D} (h : RepV κ v (.d x)) : RepD κ.S v x := by cases h; assumption
theorem RepV.toAgg {κ : Ctx} {v : Value} {l : List D} (h : RepV κ v (.agg l)) : ∃ cs : List Value, v = .agg cs.toArray ∧ RepDs κ.S cs l := by cases h; exact ⟨_, rfl, by assumption⟩
theorem RepV.toNil {κ : Ctx} {v : Value} {sz : Nat} (h : RepV κ v (.nil sz)) : v = .slice none 0 0 := by cases h; rfl
theorem RepV.toPtr {κ : Ctx} {v : Value} {n off : Nat} (h : RepV κ v (.ptr n off)) : v = .pointer (some ⟨κ.m n, off, none⟩) := by cases h; rfl
theorem RepV.toMsl {κ : Ctx} {v : Value} {n sz o len cap : Nat} (h : RepV κ v (.msl n sz o len cap)) : v = .slice (some ⟨κ.m n, o * sz, none⟩) len cap ∧ len ≤ cap ∧ cap ≤ maxLen := by cases h; exact ⟨rfl, by assumption, by assumption⟩
theorem RepV.toRp {κ : Ctx} {v : Value} {l : List D} (h : RepV κ v (.rp l)) : ∃ b off vs, v = .pointer (some ⟨b, off, none⟩) ∧ vs <+: (κ.S b).drop off ∧ RepDs κ.S vs l := by cases h; exact ⟨_, _, _, rfl, by assumption, by assumption⟩
theorem RepV.toFn {κ : Ctx} {v : Value} {f : FuncId} {l : List V} (h : RepV κ v (.fn f l)) (hf : f < MVB) : ∃ cs : List Value, v = .func (.func f) #[] cs.toArray ∧ RepVs κ cs l := by
  cases h with
  | fn _ h => exact ⟨_, rfl, h⟩
  | fnm h => exact absurd hf (Nat.not_lt.2 (Nat.le_add_left _ _))
theorem RepV.toFnm {κ : Ctx} {v : Value} {f : FuncId} {l : List V} (h : RepV κ v (.fn (mvc f) l)) : ∃ cs : List Value, v = .func (.func f) cs.toArray #[] ∧ RepVs κ cs l := by
  generalize hg : mvc f = g at h
  cases h with
  | fn k _ => subst hg; exact absurd k (Nat.not_lt.2 (Nat.le_add_left _ _))
  | fnm h =>
    have e := Nat.add_right_cancel hg
    subst e
    exact ⟨_, rfl, h⟩
theorem RepV.anyFn {κ : Ctx} {v : Value} {f : FuncId} {l : List V} (h : RepV κ v (.fn f l)) : ∃ g fs cs, v = .func (.func g) fs cs := by
  cases h with
  | fn _ _ => exact ⟨_, _, _, rfl⟩
  | fnm _ => exact ⟨_, _, _, rfl⟩
theorem RepV.toTup {κ : Ctx} {v : Value} {l : List V} (h : RepV κ v (.tup l)) : ∃ cs : List Value, v = .tuple cs.toArray ∧ RepVs κ cs l := by cases h; exact ⟨_, rfl, by assumption⟩
theorem RepD.toB {S : Mem} {v : Value} {x : Bool} (h : RepD S v (.b x)) : v = .bool x := by cases h; rfl
theorem RepD.toI {S : Mem} {v : Value} {k : IntKind} {n : Int} (h : RepD S v (.i k n)) : v = .int k n ∧ k.min ≤ n ∧ n ≤ k.max := by cases h; exact ⟨rfl, by assumption, by assumption⟩
theorem RepD.toS {S : Mem} {v : Value} {x : ByteArray} (h : RepD S v (.s x)) : v = .string x ∧ x.size ≤ maxLen := by cases h; exact ⟨rfl, by assumption⟩
def V.asDs : List V → Option (List D)
  | [] => some []
  | v :: l => match v.asD, V.asDs l with
    | some x, some xs => some (x :: xs)
    | _, _ => none
theorem RepVs.asDs {κ : Ctx} {vs : List Value} {xs : List V} {ys : List D} (h : RepVs κ vs xs) (hx : V.asDs xs = some ys) : RepDs κ.S vs ys := by
  induction xs generalizing vs ys with
  | nil => cases h; simp [V.asDs] at hx; subst hx; exact .nil
  | cons x xs ih =>
    cases h with | cons a t =>
    simp only [V.asDs] at hx
    split at hx
    · rename_i p q h1 h2; simp at hx; subst hx; exact .cons (a.asD h1) (ih t h2)
    · simp at hx
/-- cells taken for a struct of data, if they can be -/
def packW (l : List V) : V :=
  match V.asDs l with
  | some ds => .agg ds
  | none => .agv l
theorem packW_sound {κ : Ctx} {cs : List Value} {l : List V} (h : RepVs κ cs l) : RepV κ (.agg cs.toArray) (packW l) := by
  unfold packW
  split
  · rename_i h1; exact .agg (h.asDs h1)
  · exact .agv h
end Go.Ab
