/- An evaluator of the model of Go programs over abstract heaps: the definitions. -/
import Derived.Calls
namespace Go.Ev
open Go

/-! ### Finite maps from numbers, as trees; small words -/

inductive T (α : Type) where
  | e : T α
  | n (l : T α) (v : Option α) (r : T α) : T α

namespace T
variable {α : Type}
noncomputable def get (t : T α) : Nat → Option α :=
  T.rec (motive := fun _ => Nat → Option α) (fun _ => none)
    (fun _ v _ ihl ihr k => Bool.rec (Bool.rec (ihr (Nat.sub (Nat.div k 2) 1)) (ihl (Nat.div k 2)) (Nat.beq (Nat.mod k 2) 1)) v (Nat.beq k 0)) t
noncomputable def one (x : Option α) (f : Nat) : Nat → T α :=
  Nat.rec (motive := fun _ => Nat → T α) (fun _ => .e)
   (fun _ ih k => Bool.rec (Bool.rec (.n .e none (ih (Nat.sub (Nat.div k 2) 1))) (.n (ih (Nat.div k 2)) none .e) (Nat.beq (Nat.mod k 2) 1)) (.n .e x .e) (Nat.beq k 0)) f
noncomputable def put (x : Option α) (t : T α) : Nat → T α :=
  T.rec (motive := fun _ => Nat → T α) (fun k => one x (Nat.succ k) k)
    (fun l v r ihl ihr k => Bool.rec (Bool.rec (.n l v (ihr (Nat.sub (Nat.div k 2) 1))) (.n (ihl (Nat.div k 2)) v r) (Nat.beq (Nat.mod k 2) 1)) (.n l x r) (Nat.beq k 0)) t
end T

section words
variable {α β γ : Type}
noncomputable def ob (x : Option α) (f : α → Option β) : Option β := Option.rec (motive := fun _ => Option β) none f x
noncomputable def oc (x : Option α) (g : β) (f : α → β) : β := Option.rec (motive := fun _ => β) g f x
noncomputable def bt (b : Bool) (x y : β) : β := Bool.rec (motive := fun _ => β) y x b
noncomputable def nt (n : Nat) (x : β) (f : Nat → β) : β := Bool.rec (motive := fun _ => β) (f (Nat.sub n 1)) x (Nat.beq n 0)
noncomputable def un (p : α × γ) (f : α → γ → β) : β := Prod.rec (motive := fun _ => β) f p
noncomputable def nat (n : Int) (f : Nat → Option β) : Option β := Int.rec (motive := fun _ => Option β) f (fun _ => none) n
end words

noncomputable section

/-! ### Abstract values -/

inductive ACap where
  | ex (c : Nat)
  | lo (s : Nat)

inductive AV where
  | bool (b : Bool)
  | int (k : IntKind) (n : Int)
  | str (s : List Nat)
  | nilp
  | ptr (b off : Nat)
  | nils
  | sl (b off len : Nat) (c : ACap)
  | nilm
  | mp (r : Nat)
  | nilfn
  | fn (f : FuncId) (first captured : List AV)
  | agg (l : List AV)
  | tup (l : List AV)

inductive AObj where
  | cells (vs : List AV)
  | map (es : List (AV × AV × Nat)) (clock : Nat)
  | iter (m since : Nat) (seen : List Nat) (stepped : Nat)

structure AH where
  next : Nat
  t : T AObj

def undef : AV := .tup []

section views
variable {β : Type}
def onPtr (f : Nat → Nat → Option β) (x : AV) : Option β :=
  AV.rec (motive_1 := fun _ => Option β) (motive_2 := fun _ => Unit) (fun _ => none) (fun _ _ => none) (fun _ => none) none (fun b o => f b o) none (fun _ _ _ _ => none) none (fun _ => none) none (fun _ _ _ _ _ => none) (fun _ _ => none) (fun _ _ => none) () (fun _ _ _ _ => ()) x
def onInt (f : IntKind → Int → Option β) (x : AV) : Option β :=
  AV.rec (motive_1 := fun _ => Option β) (motive_2 := fun _ => Unit) (fun _ => none) (fun k n => f k n) (fun _ => none) none (fun _ _ => none) none (fun _ _ _ _ => none) none (fun _ => none) none (fun _ _ _ _ _ => none) (fun _ _ => none) (fun _ _ => none) () (fun _ _ _ _ => ()) x
def onBool (f : Bool → Option β) (x : AV) : Option β :=
  AV.rec (motive_1 := fun _ => Option β) (motive_2 := fun _ => Unit) (fun b => f b) (fun _ _ => none) (fun _ => none) none (fun _ _ => none) none (fun _ _ _ _ => none) none (fun _ => none) none (fun _ _ _ _ _ => none) (fun _ _ => none) (fun _ _ => none) () (fun _ _ _ _ => ()) x
def onStr (f : List Nat → Option β) (x : AV) : Option β :=
  AV.rec (motive_1 := fun _ => Option β) (motive_2 := fun _ => Unit) (fun _ => none) (fun _ _ => none) (fun s => f s) none (fun _ _ => none) none (fun _ _ _ _ => none) none (fun _ => none) none (fun _ _ _ _ _ => none) (fun _ _ => none) (fun _ _ => none) () (fun _ _ _ _ => ()) x
def onSl (g : Option β) (f : Nat → Nat → Nat → ACap → Option β) (x : AV) : Option β :=
  AV.rec (motive_1 := fun _ => Option β) (motive_2 := fun _ => Unit) (fun _ => none) (fun _ _ => none) (fun _ => none) none (fun _ _ => none) g (fun b o n c => f b o n c) none (fun _ => none) none (fun _ _ _ _ _ => none) (fun _ _ => none) (fun _ _ => none) () (fun _ _ _ _ => ()) x
def onMap (g : Option β) (f : Nat → Option β) (x : AV) : Option β :=
  AV.rec (motive_1 := fun _ => Option β) (motive_2 := fun _ => Unit) (fun _ => none) (fun _ _ => none) (fun _ => none) none (fun _ _ => none) none (fun _ _ _ _ => none) g (fun r => f r) none (fun _ _ _ _ _ => none) (fun _ _ => none) (fun _ _ => none) () (fun _ _ _ _ => ()) x
def onFn (f : FuncId → List AV → List AV → Option β) (x : AV) : Option β :=
  AV.rec (motive_1 := fun _ => Option β) (motive_2 := fun _ => Unit) (fun _ => none) (fun _ _ => none) (fun _ => none) none (fun _ _ => none) none (fun _ _ _ _ => none) none (fun _ => none) none (fun g a b _ _ => f g a b) (fun _ _ => none) (fun _ _ => none) () (fun _ _ _ _ => ()) x
def onAgg (f : List AV → Option β) (x : AV) : Option β :=
  AV.rec (motive_1 := fun _ => Option β) (motive_2 := fun _ => Unit) (fun _ => none) (fun _ _ => none) (fun _ => none) none (fun _ _ => none) none (fun _ _ _ _ => none) none (fun _ => none) none (fun _ _ _ _ _ => none) (fun l _ => f l) (fun _ _ => none) () (fun _ _ _ _ => ()) x
def onTup (f : List AV → Option β) (x : AV) : Option β :=
  AV.rec (motive_1 := fun _ => Option β) (motive_2 := fun _ => Unit) (fun _ => none) (fun _ _ => none) (fun _ => none) none (fun _ _ => none) none (fun _ _ _ _ => none) none (fun _ => none) none (fun _ _ _ _ _ => none) (fun _ _ => none) (fun l _ => f l) () (fun _ _ _ _ => ()) x
def onNum (g : List Nat → Option β) (f : IntKind → Int → Option β) (x : AV) : Option β :=
  AV.rec (motive_1 := fun _ => Option β) (motive_2 := fun _ => Unit) (fun _ => none) (fun k n => f k n) (fun s => g s) none (fun _ _ => none) none (fun _ _ _ _ => none) none (fun _ => none) none (fun _ _ _ _ _ => none) (fun _ _ => none) (fun _ _ => none) () (fun _ _ _ _ => ()) x
def onGuard (g : Option β) (f : Bool → Option β) (x : AV) : Option β :=
  AV.rec (motive_1 := fun _ => Option β) (motive_2 := fun _ => Unit) (fun b => f b) (fun _ _ => none) (fun _ => none) none (fun _ _ => none) none (fun _ _ _ _ => none) none (fun _ => none) none (fun _ _ _ _ _ => none) (fun _ _ => none) (fun _ _ => g) () (fun _ _ _ _ => ()) x
end views

section views
variable {β : Type}
def onCells (f : List AV → Option β) (x : Option AObj) : Option β :=
  Option.rec (motive := fun _ => Option β) none (fun o => AObj.rec (motive := fun _ => Option β) f (fun _ _ => none) (fun _ _ _ _ => none) o) x
def onEntries (f : List (AV × AV × Nat) → Nat → Option β) (x : Option AObj) : Option β :=
  Option.rec (motive := fun _ => Option β) none (fun o => AObj.rec (motive := fun _ => Option β) (fun _ => none) f (fun _ _ _ _ => none) o) x
def onIter (f : Nat → Nat → List Nat → Nat → Option β) (x : Option AObj) : Option β :=
  Option.rec (motive := fun _ => Option β) none (fun o => AObj.rec (motive := fun _ => Option β) (fun _ => none) (fun _ _ => none) f o) x
def onCap (f g : Nat → Option β) (c : ACap) : Option β := ACap.rec (motive := fun _ => Option β) f g c
def onH (f : Nat → T AObj → β) (H : AH) : β := AH.rec (motive := fun _ => β) f H
end views

/-! ### Frames: 256 slots -/

inductive D where
  | d0 | d1 | d2 | d3 | d4 | d5 | d6 | d7 | d8 | d9 | d10 | d11 | d12 | d13 | d14 | d15
def digit (n : Nat) : D :=
  bt (Nat.beq n 0) .d0 (bt (Nat.beq n 1) .d1 (bt (Nat.beq n 2) .d2 (bt (Nat.beq n 3) .d3 (bt (Nat.beq n 4) .d4 (bt (Nat.beq n 5) .d5 (bt (Nat.beq n 6) .d6 (bt (Nat.beq n 7) .d7 (bt (Nat.beq n 8) .d8 (bt (Nat.beq n 9) .d9 (bt (Nat.beq n 10) .d10 (bt (Nat.beq n 11) .d11 (bt (Nat.beq n 12) .d12 (bt (Nat.beq n 13) .d13 (bt (Nat.beq n 14) .d14 (.d15)))))))))))))))

structure R (α : Type) where
  (a0 a1 a2 a3 a4 a5 a6 a7 a8 a9 a10 a11 a12 a13 a14 a15 : α)

section rows
variable {α : Type}

def s0 (r : R α) : α := R.rec (motive := fun _ => α) (fun a0 _ _ _ _ _ _ _ _ _ _ _ _ _ _ _ => a0) r
def s1 (r : R α) : α := R.rec (motive := fun _ => α) (fun _ a1 _ _ _ _ _ _ _ _ _ _ _ _ _ _ => a1) r
def s2 (r : R α) : α := R.rec (motive := fun _ => α) (fun _ _ a2 _ _ _ _ _ _ _ _ _ _ _ _ _ => a2) r
def s3 (r : R α) : α := R.rec (motive := fun _ => α) (fun _ _ _ a3 _ _ _ _ _ _ _ _ _ _ _ _ => a3) r
def s4 (r : R α) : α := R.rec (motive := fun _ => α) (fun _ _ _ _ a4 _ _ _ _ _ _ _ _ _ _ _ => a4) r
def s5 (r : R α) : α := R.rec (motive := fun _ => α) (fun _ _ _ _ _ a5 _ _ _ _ _ _ _ _ _ _ => a5) r
def s6 (r : R α) : α := R.rec (motive := fun _ => α) (fun _ _ _ _ _ _ a6 _ _ _ _ _ _ _ _ _ => a6) r
def s7 (r : R α) : α := R.rec (motive := fun _ => α) (fun _ _ _ _ _ _ _ a7 _ _ _ _ _ _ _ _ => a7) r
def s8 (r : R α) : α := R.rec (motive := fun _ => α) (fun _ _ _ _ _ _ _ _ a8 _ _ _ _ _ _ _ => a8) r
def s9 (r : R α) : α := R.rec (motive := fun _ => α) (fun _ _ _ _ _ _ _ _ _ a9 _ _ _ _ _ _ => a9) r
def s10 (r : R α) : α := R.rec (motive := fun _ => α) (fun _ _ _ _ _ _ _ _ _ _ a10 _ _ _ _ _ => a10) r
def s11 (r : R α) : α := R.rec (motive := fun _ => α) (fun _ _ _ _ _ _ _ _ _ _ _ a11 _ _ _ _ => a11) r
def s12 (r : R α) : α := R.rec (motive := fun _ => α) (fun _ _ _ _ _ _ _ _ _ _ _ _ a12 _ _ _ => a12) r
def s13 (r : R α) : α := R.rec (motive := fun _ => α) (fun _ _ _ _ _ _ _ _ _ _ _ _ _ a13 _ _ => a13) r
def s14 (r : R α) : α := R.rec (motive := fun _ => α) (fun _ _ _ _ _ _ _ _ _ _ _ _ _ _ a14 _ => a14) r
def s15 (r : R α) : α := R.rec (motive := fun _ => α) (fun _ _ _ _ _ _ _ _ _ _ _ _ _ _ _ a15 => a15) r
def u0 (f : α → α) (r : R α) : R α := R.rec (motive := fun _ => R α) (fun a0 a1 a2 a3 a4 a5 a6 a7 a8 a9 a10 a11 a12 a13 a14 a15 => ⟨f a0, a1, a2, a3, a4, a5, a6, a7, a8, a9, a10, a11, a12, a13, a14, a15⟩) r
def u1 (f : α → α) (r : R α) : R α := R.rec (motive := fun _ => R α) (fun a0 a1 a2 a3 a4 a5 a6 a7 a8 a9 a10 a11 a12 a13 a14 a15 => ⟨a0, f a1, a2, a3, a4, a5, a6, a7, a8, a9, a10, a11, a12, a13, a14, a15⟩) r
def u2 (f : α → α) (r : R α) : R α := R.rec (motive := fun _ => R α) (fun a0 a1 a2 a3 a4 a5 a6 a7 a8 a9 a10 a11 a12 a13 a14 a15 => ⟨a0, a1, f a2, a3, a4, a5, a6, a7, a8, a9, a10, a11, a12, a13, a14, a15⟩) r
def u3 (f : α → α) (r : R α) : R α := R.rec (motive := fun _ => R α) (fun a0 a1 a2 a3 a4 a5 a6 a7 a8 a9 a10 a11 a12 a13 a14 a15 => ⟨a0, a1, a2, f a3, a4, a5, a6, a7, a8, a9, a10, a11, a12, a13, a14, a15⟩) r
def u4 (f : α → α) (r : R α) : R α := R.rec (motive := fun _ => R α) (fun a0 a1 a2 a3 a4 a5 a6 a7 a8 a9 a10 a11 a12 a13 a14 a15 => ⟨a0, a1, a2, a3, f a4, a5, a6, a7, a8, a9, a10, a11, a12, a13, a14, a15⟩) r
def u5 (f : α → α) (r : R α) : R α := R.rec (motive := fun _ => R α) (fun a0 a1 a2 a3 a4 a5 a6 a7 a8 a9 a10 a11 a12 a13 a14 a15 => ⟨a0, a1, a2, a3, a4, f a5, a6, a7, a8, a9, a10, a11, a12, a13, a14, a15⟩) r
def u6 (f : α → α) (r : R α) : R α := R.rec (motive := fun _ => R α) (fun a0 a1 a2 a3 a4 a5 a6 a7 a8 a9 a10 a11 a12 a13 a14 a15 => ⟨a0, a1, a2, a3, a4, a5, f a6, a7, a8, a9, a10, a11, a12, a13, a14, a15⟩) r
def u7 (f : α → α) (r : R α) : R α := R.rec (motive := fun _ => R α) (fun a0 a1 a2 a3 a4 a5 a6 a7 a8 a9 a10 a11 a12 a13 a14 a15 => ⟨a0, a1, a2, a3, a4, a5, a6, f a7, a8, a9, a10, a11, a12, a13, a14, a15⟩) r
def u8 (f : α → α) (r : R α) : R α := R.rec (motive := fun _ => R α) (fun a0 a1 a2 a3 a4 a5 a6 a7 a8 a9 a10 a11 a12 a13 a14 a15 => ⟨a0, a1, a2, a3, a4, a5, a6, a7, f a8, a9, a10, a11, a12, a13, a14, a15⟩) r
def u9 (f : α → α) (r : R α) : R α := R.rec (motive := fun _ => R α) (fun a0 a1 a2 a3 a4 a5 a6 a7 a8 a9 a10 a11 a12 a13 a14 a15 => ⟨a0, a1, a2, a3, a4, a5, a6, a7, a8, f a9, a10, a11, a12, a13, a14, a15⟩) r
def u10 (f : α → α) (r : R α) : R α := R.rec (motive := fun _ => R α) (fun a0 a1 a2 a3 a4 a5 a6 a7 a8 a9 a10 a11 a12 a13 a14 a15 => ⟨a0, a1, a2, a3, a4, a5, a6, a7, a8, a9, f a10, a11, a12, a13, a14, a15⟩) r
def u11 (f : α → α) (r : R α) : R α := R.rec (motive := fun _ => R α) (fun a0 a1 a2 a3 a4 a5 a6 a7 a8 a9 a10 a11 a12 a13 a14 a15 => ⟨a0, a1, a2, a3, a4, a5, a6, a7, a8, a9, a10, f a11, a12, a13, a14, a15⟩) r
def u12 (f : α → α) (r : R α) : R α := R.rec (motive := fun _ => R α) (fun a0 a1 a2 a3 a4 a5 a6 a7 a8 a9 a10 a11 a12 a13 a14 a15 => ⟨a0, a1, a2, a3, a4, a5, a6, a7, a8, a9, a10, a11, f a12, a13, a14, a15⟩) r
def u13 (f : α → α) (r : R α) : R α := R.rec (motive := fun _ => R α) (fun a0 a1 a2 a3 a4 a5 a6 a7 a8 a9 a10 a11 a12 a13 a14 a15 => ⟨a0, a1, a2, a3, a4, a5, a6, a7, a8, a9, a10, a11, a12, f a13, a14, a15⟩) r
def u14 (f : α → α) (r : R α) : R α := R.rec (motive := fun _ => R α) (fun a0 a1 a2 a3 a4 a5 a6 a7 a8 a9 a10 a11 a12 a13 a14 a15 => ⟨a0, a1, a2, a3, a4, a5, a6, a7, a8, a9, a10, a11, a12, a13, f a14, a15⟩) r
def u15 (f : α → α) (r : R α) : R α := R.rec (motive := fun _ => R α) (fun a0 a1 a2 a3 a4 a5 a6 a7 a8 a9 a10 a11 a12 a13 a14 a15 => ⟨a0, a1, a2, a3, a4, a5, a6, a7, a8, a9, a10, a11, a12, a13, a14, f a15⟩) r
def sel (d : D) : R α → α := D.rec (motive := fun _ => R α → α) s0 s1 s2 s3 s4 s5 s6 s7 s8 s9 s10 s11 s12 s13 s14 s15 d
def upd (d : D) : (α → α) → R α → R α := D.rec (motive := fun _ => (α → α) → R α → R α) u0 u1 u2 u3 u4 u5 u6 u7 u8 u9 u10 u11 u12 u13 u14 u15 d

end rows

abbrev Env := R (R AV)
def R.all {α : Type} (a : α) : R α := ⟨a, a, a, a, a, a, a, a, a, a, a, a, a, a, a, a⟩
def emptyEnv : Env := R.all (R.all undef)
/-- The slot of two digits of a frame. -/
def getF (a b : D) (env : Env) : AV := sel b (sel a env)
def putF (a b : D) (v : AV) (env : Env) : Env := upd a (upd b fun _ => v) env
/-- Slot t of a frame. -/
def slotG (t : Nat) : Env → AV := getF (digit (Nat.div t 16)) (digit (Nat.mod t 16))
def slotP (t : Nat) : AV → Env → Env := putF (digit (Nat.div t 16)) (digit (Nat.mod t 16))

def AH.get (H : AH) (b : Nat) : Option AObj := onH (fun _ t => t.get b) H
def AH.put (H : AH) (b : Nat) (o : AObj) : AH := onH (fun n t => ⟨n, t.put (some o) b⟩) H
def AH.kill (H : AH) (b : Nat) : AH := onH (fun n t => ⟨n, t.put none b⟩) H
/-- A new block: its number, the heap with it. -/
def AH.new {β : Type} (H : AH) (o : AObj) (k : Nat → AH → β) : β := onH (fun n t => k n ⟨Nat.succ n, t.put (some o) n⟩) H


/-! ### Constants and types -/

def constA : Nat → Value → Option AV
  | 0, _ => none
  | f + 1, v => match v with
    | .bool b => some (.bool b)
    | .int k n => some (.int k n)
    | .string s => some (.str (s.data.toList.map UInt8.toNat))
    | .pointer none => some .nilp
    | .slice none 0 0 => some .nils
    | .map none => some .nilm
    | .nilFunc => some .nilfn
    | .agg cs => (cs.toList.mapM (constA f)).map .agg
    | .tuple cs => (cs.toList.mapM (constA f)).map .tup
    | _ => none

def sizeA (P : Program) (t : TypeId) : Option Nat := (P.info? t).map (·.size)

/-- The zero value of a type. -/
def zeroA (P : Program) (t : TypeId) : Option AV :=
  match (P.info? t).bind (·.zero) with
  | some v => constA 4 v
  | none => none

/-- How a variable of a type is read: none: no such type; some none: one cell; some (some n): n cells. -/
def shapeA (P : Program) (t : TypeId) : Option (Option Nat) :=
  match P.underlying t, sizeA P t with
  | some (.struct _), some n => some (some n)
  | some (.array _ _), some n => some (some n)
  | some _, some _ => some none
  | _, _ => none

def bytesA (P : Program) (t : TypeId) : Nat := P.bytesOf t

def mapT (P : Program) (t : TypeId) : Option (TypeId × TypeId) :=
  match P.underlying t with
  | some (.map k e) => some (k, e)
  | _ => none

/-! ### Lists -/


section lists
variable {α β : Type}
def nth (l : List α) : Nat → Option α :=
  List.rec (motive := fun _ => Nat → Option α) (fun _ => none) (fun x _ ih k => Bool.rec (ih (Nat.sub k 1)) (some x) (Nat.beq k 0)) l
/-- The first n elements, if there are so many. -/
def takeE (l : List α) : Nat → Option (List α) :=
  List.rec (motive := fun _ => Nat → Option (List α)) (fun n => Bool.rec none (some []) (Nat.beq n 0))
    (fun x _ ih n => Bool.rec (ob (ih (Nat.sub n 1)) fun r => some (x :: r)) (some []) (Nat.beq n 0)) l
/-- The n elements from an offset on, if there are so many. -/
def cut (l : List α) : Nat → Nat → Option (List α) :=
  List.rec (motive := fun _ => Nat → Nat → Option (List α)) (fun _ n => Bool.rec none (some []) (Nat.beq n 0))
    (fun x l ih k n => Bool.rec (ih (Nat.sub k 1) n) (takeE (x :: l) n) (Nat.beq k 0)) l
/-- Elements written over the first ones, if there are so many. -/
def over (l : List α) : List α → Option (List α) :=
  List.rec (motive := fun _ => List α → Option (List α)) (fun ys => List.rec (some []) (fun _ _ _ => none) ys)
    (fun x l ih ys => List.rec (some (x :: l)) (fun y ys _ => ob (ih ys) fun r => some (y :: r)) ys) l
/-- .. over those from an offset on. -/
def splice (l : List α) : Nat → List α → Option (List α) :=
  List.rec (motive := fun _ => Nat → List α → Option (List α)) (fun _ ys => List.rec (some []) (fun _ _ _ => none) ys)
    (fun x l ih k ys => Bool.rec (ob (ih (Nat.sub k 1) ys) fun r => some (x :: r)) (over (x :: l) ys) (Nat.beq k 0)) l
def allL (f : α → Bool) (l : List α) : Bool :=
  List.rec (motive := fun _ => Bool) true (fun x _ ih => Bool.rec false ih (f x)) l
def mapL (f : α → β) (l : List α) : List β := List.rec (motive := fun _ => List β) [] (fun x _ ih => f x :: ih) l
def appL (l m : List α) : List α := List.rec (motive := fun _ => List α) m (fun x _ ih => x :: ih) l
def lenL (l : List α) : Nat := List.rec (motive := fun _ => Nat → Nat) (fun n => n) (fun _ _ ih n => ih (Nat.succ n)) l 0
def repeatA (z : List α) (n : Nat) : List α := Nat.rec (motive := fun _ => List α) [] (fun _ ih => appL z ih) n
end lists

def cellsOf (x : AV) : List AV := oc (onAgg (fun l => some l) x) [x] fun l => l
def oneCell (x : AV) : Bool := oc (onAgg (fun _ => some ()) x) (oc (onTup (fun _ => some ()) x) true fun _ => false) fun _ => false

/-- The parts of a composite value, laid over its zero cells. -/
def fillA (place : Nat → Option (Nat × Nat)) (ps : List (Nat × AV)) : List AV → Option (List AV) :=
  List.rec (motive := fun _ => List AV → Option (List AV)) (fun cells => some cells)
    (fun p _ ih cells => ob (place p.1) fun q => bt (Nat.beq (lenL (cellsOf p.2)) q.2) (bt (Nat.beq q.2 0) none (ob (splice cells q.1 (cellsOf p.2)) ih)) none) ps

def eqL (x : List Nat) : List Nat → Bool :=
  List.rec (motive := fun _ => List Nat → Bool) (fun y => List.rec true (fun _ _ _ => false) y)
    (fun a _ ih y => List.rec false (fun b y _ => Bool.rec false (ih y) (Nat.beq a b)) y) x
def ltL (x : List Nat) : List Nat → Bool :=
  List.rec (motive := fun _ => List Nat → Bool) (fun y => List.rec false (fun _ _ _ => true) y)
    (fun a _ ih y => List.rec false (fun b y _ => Bool.rec (Bool.rec false (ih y) (Nat.beq a b)) true (Nat.blt a b)) y) x

/-! ### Integers -/

def maxK : IntKind → Nat
  | .i8 => 127 | .i16 => 32767 | .i32 => 2147483647 | .i64 => 9223372036854775807
  | .u8 => 255 | .u16 => 65535 | .u32 => 4294967295 | .u64 => 18446744073709551615
/-- The greatest n with -(n + 1) in the kind's range, and whether there is one. -/
def minK : IntKind → Bool × Nat
  | .i8 => (true, 127) | .i16 => (true, 32767) | .i32 => (true, 2147483647) | .i64 => (true, 9223372036854775807)
  | _ => (false, 0)

def wrapA (k : IntKind) (n : Int) : Int :=
  match n with
  | .ofNat m => bt (Nat.ble m (maxK k)) (.ofNat m) (k.wrap (.ofNat m))
  | .negSucc m => bt (minK k).1 (bt (Nat.ble m (minK k).2) (.negSucc m) (k.wrap (.negSucc m))) (k.wrap (.negSucc m))

def ltA (a b : Int) : Bool :=
  match a with
  | .ofNat a => match b with
    | .ofNat b => Nat.blt a b
    | .negSucc _ => false
  | .negSucc a => match b with
    | .ofNat _ => true
    | .negSucc b => Nat.blt b a

def eqA (a b : Int) : Bool :=
  match a with
  | .ofNat a => match b with
    | .ofNat b => Nat.beq a b
    | .negSucc _ => false
  | .negSucc a => match b with
    | .ofNat _ => false
    | .negSucc b => Nat.beq a b

def kindNo : IntKind → Nat
  | .i8 => 0 | .i16 => 1 | .i32 => 2 | .i64 => 3 | .u8 => 4 | .u16 => 5 | .u32 => 6 | .u64 => 7
def kindEq (j k : IntKind) : Bool := Nat.beq (kindNo j) (kindNo k)

def addI (x y : Int) : Int :=
  match x with
  | .ofNat a => match y with
    | .ofNat b => .ofNat (Nat.add a b)
    | .negSucc b => Int.add (.ofNat a) (.negSucc b)
  | .negSucc a => Int.add (.negSucc a) y
def subI (x y : Int) : Int :=
  match x with
  | .ofNat a => match y with
    | .ofNat b => bt (Nat.ble b a) (.ofNat (Nat.sub a b)) (Int.sub (.ofNat a) (.ofNat b))
    | .negSucc b => Int.sub (.ofNat a) (.negSucc b)
  | .negSucc a => Int.sub (.negSucc a) y
def mulI (x y : Int) : Int :=
  match x with
  | .ofNat a => match y with
    | .ofNat b => .ofNat (Nat.mul a b)
    | .negSucc b => Int.mul (.ofNat a) (.negSucc b)
  | .negSucc a => Int.mul (.negSucc a) y
def quoI (x y : Int) : Int :=
  match x with
  | .ofNat a => match y with
    | .ofNat b => .ofNat (Nat.div a b)
    | .negSucc b => Int.tdiv (.ofNat a) (.negSucc b)
  | .negSucc a => Int.tdiv (.negSucc a) y
def remI (x y : Int) : Int :=
  match x with
  | .ofNat a => match y with
    | .ofNat b => .ofNat (Nat.mod a b)
    | .negSucc b => Int.tmod (.ofNat a) (.negSucc b)
  | .negSucc a => Int.tmod (.negSucc a) y

abbrev BF := IntKind → Int → Int → Option AV
def fAdd : BF := fun k x y => some (.int k (wrapA k (addI x y)))
def fSub : BF := fun k x y => some (.int k (wrapA k (subI x y)))
def fMul : BF := fun k x y => some (.int k (wrapA k (mulI x y)))
def fQuo : BF := fun k x y => bt (eqA y 0) none (some (.int k (wrapA k (quoI x y))))
def fRem : BF := fun k x y => bt (eqA y 0) none (some (.int k (remI x y)))
/-- Bits, of numbers that are not negative and in range. -/
def fBits (f : Nat → Nat → Nat) : BF := fun k x y => nat x fun a => nat y fun b =>
  bt (Nat.ble a (maxK k)) (bt (Nat.ble b (maxK k)) (some (.int k (wrapA k (.ofNat (f a b))))) none) none
def fAnd : BF := fBits Nat.land
def fOr : BF := fBits Nat.lor
def fXor : BF := fBits Nat.xor
def fEql : BF := fun _ x y => some (.bool (eqA x y))
def fNeq : BF := fun _ x y => some (.bool (bt (eqA x y) false true))
def fLss : BF := fun _ x y => some (.bool (ltA x y))
def fLeq : BF := fun _ x y => some (.bool (bt (ltA y x) false true))
def fGtr : BF := fun _ x y => some (.bool (ltA y x))
def fGeq : BF := fun _ x y => some (.bool (bt (ltA x y) false true))
def fShl : BF := fun k x y => nat x fun m => nat y fun n => bt (Nat.ble n 64) (some (.int k (wrapA k (.ofNat (Nat.mul m (Nat.pow 2 (min n k.bits))))))) none
def fShr : BF := fun k x y => nat x fun m => nat y fun n => bt (Nat.ble n 64) (some (.int k (.ofNat (Nat.div m (Nat.pow 2 (min n k.bits)))))) none

abbrev SF := List Nat → List Nat → Option AV
def sAdd : SF := fun x y => bt (Nat.blt (Nat.add (lenL x) (lenL y)) 4294967296) (some (.str (appL x y))) none
def sEql : SF := fun x y => some (.bool (eqL x y))
def sNeq : SF := fun x y => some (.bool (bt (eqL x y) false true))
def sLss : SF := fun x y => some (.bool (ltL x y))
def sLeq : SF := fun x y => some (.bool (bt (ltL x y) true (eqL x y)))
def sGtr : SF := fun x y => some (.bool (bt (ltL x y) false (bt (eqL x y) false true)))
def sGeq : SF := fun x y => some (.bool (bt (ltL x y) false true))

def intOp : BinOp → Option BF
  | .add => some fAdd | .sub => some fSub | .mul => some fMul | .quo => some fQuo | .rem => some fRem
  | .and => some fAnd | .or => some fOr | .xor => some fXor
  | .eql => some fEql | .neq => some fNeq | .lss => some fLss | .leq => some fLeq | .gtr => some fGtr | .geq => some fGeq
  | _ => none
def strOp : BinOp → Option SF
  | .add => some sAdd | .eql => some sEql | .neq => some sNeq | .lss => some sLss | .leq => some sLeq | .gtr => some sGtr | .geq => some sGeq
  | _ => none

/-! ### Equality of values of a type, keys of maps -/

def partF (s : Option Nat) (cs : List AV) (off : Nat) : Option AV :=
  oc s (nth cs off) fun n => ob (cut cs off n) fun l => some (.agg l)
def partA (P : Program) (t : TypeId) (cs : List AV) (off : Nat) : Option AV := ob (shapeA P t) fun s => partF s cs off

abbrev EF := AV → AV → Option Bool
def eInt : EF := fun x y => onInt (fun j a => onInt (fun k b => bt (kindEq j k) (some (eqA a b)) none) y) x
def eBool : EF := fun x y => onBool (fun a => onBool (fun b => some (bt a b (bt b false true))) y) x
def eStr : EF := fun x y => onStr (fun a => onStr (fun b => some (eqL a b)) y) x
def eSl : EF := fun x y => onSl (onSl (some true) (fun _ _ _ _ => some false) y) (fun _ _ _ _ => onSl (some false) (fun _ _ _ _ => none) y) x
def isNilp (x : AV) : Bool := match x with | .nilp => true | _ => false
def isNilf (x : AV) : Bool := match x with | .nilfn => true | _ => false
def ePtr : EF := fun x y => bt (isNilp x) (bt (isNilp y) (some true) (onPtr (fun _ _ => some false) y)) (onPtr (fun _ _ => bt (isNilp y) (some false) none) x)
def eMap : EF := fun x y => onMap (onMap (some true) (fun _ => some false) y) (fun _ => onMap (some false) (fun _ => none) y) x
def eFn : EF := fun x y => bt (isNilf x) (bt (isNilf y) (some true) (onFn (fun _ _ _ => some false) y)) (onFn (fun _ _ _ => bt (isNilf y) (some false) none) x)

/-- The comparison of each field: where it lies, how it is read, how it is compared. -/
structure FieldEq where
  off : Nat
  shape : Option Nat
  eq : EF

def eFields (fs : List FieldEq) (xs ys : List AV) : Option Bool :=
  List.rec (motive := fun _ => Option Bool) (some true)
    (fun f _ ih => ob (partF f.shape xs f.off) fun a => ob (partF f.shape ys f.off) fun b => ob (f.eq a b) fun r => bt r ih (some false)) fs
def eElems (eq : EF) (s : Option Nat) (n : Nat) (xs ys : List AV) (len : Nat) : Nat → Option Bool :=
  Nat.rec (motive := fun _ => Nat → Option Bool) (fun _ => some true)
    (fun _ ih i => ob (partF s xs (Nat.mul i n)) fun a => ob (partF s ys (Nat.mul i n)) fun b => ob (eq a b) fun r => bt r (ih (Nat.succ i)) (some false)) len

def eStruct (fs : List FieldEq) : EF := fun x y => onAgg (fun xs => onAgg (fun ys => eFields fs xs ys) y) x
def eArray (eq : EF) (s : Option Nat) (n len : Nat) : EF := fun x y => onAgg (fun xs => onAgg (fun ys => eElems eq s n xs ys len 0) y) x

def fieldEqs (eq : TypeId → Option EF) (P : Program) : List Field → Option (List FieldEq)
  | [] => some []
  | f :: fs => match fieldEqs eq P fs with
    | some r => match decide (f.name = "_") with
      | true => some r
      | false => match shapeA P f.type, eq f.type with
        | some s, some e => some (⟨f.offset, s, e⟩ :: r)
        | _, _ => none
    | none => none

/-- '==' at a type: ints, bools, strings, structs and arrays of them; and what is held against nil. -/
def eqT (P : Program) : Nat → TypeId → Option EF
  | 0, _ => none
  | d + 1, t => match P.underlying t with
    | some (.int _) => some eInt
    | some .bool => some eBool
    | some .string => some eStr
    | some (.struct fs) => match P.stoodInHeld t, fieldEqs (eqT P d) P fs.toList with
      | false, some r => some (eStruct r)
      | _, _ => none
    | some (.array len e) => match eqT P d e, shapeA P e, sizeA P e with
      | some q, some s, some n => some (eArray q s n len)
      | _, _, _ => none
    | some (.slice _) => some eSl
    | some (.pointer _) => some ePtr
    | some (.map _ _) => some eMap
    | some (.func ..) => some eFn
    | _ => none

def eqDepth : Nat := 12

/-- What can be a key here: ints, bools, strings, structs and arrays of them. -/
abbrev KF := AV → Bool
def kInt : KF := fun x => oc (onInt (fun _ _ => some ()) x) false fun _ => true
def kBool : KF := fun x => oc (onBool (fun _ => some ()) x) false fun _ => true
def kStr : KF := fun x => oc (onStr (fun _ => some ()) x) false fun _ => true
structure FieldKey where
  off : Nat
  shape : Option Nat
  ok : KF

def kFields (fs : List FieldKey) (xs : List AV) : Bool :=
  List.rec (motive := fun _ => Bool) true (fun f _ ih => oc (partF f.shape xs f.off) false fun a => bt (f.ok a) ih false) fs
def kElems (ok : KF) (s : Option Nat) (n : Nat) (xs : List AV) (len : Nat) : Nat → Bool :=
  Nat.rec (motive := fun _ => Nat → Bool) (fun _ => true) (fun _ ih i => oc (partF s xs (Nat.mul i n)) false fun a => bt (ok a) (ih (Nat.succ i)) false) len

def kStruct (fs : List FieldKey) : KF := fun x => oc (onAgg (fun xs => some (kFields fs xs)) x) false fun b => b
def kArray (ok : KF) (s : Option Nat) (n len : Nat) : KF := fun x => oc (onAgg (fun xs => some (kElems ok s n xs len 0)) x) false fun b => b
def fieldKeys (ok : TypeId → Option KF) (P : Program) : List Field → Option (List FieldKey)
  | [] => some []
  | f :: fs => match fieldKeys ok P fs with
    | some r => match decide (f.name = "_") with
      | true => some r
      | false => match shapeA P f.type, ok f.type with
        | some s, some e => some (⟨f.offset, s, e⟩ :: r)
        | _, _ => none
    | none => none
def keyT (P : Program) : Nat → TypeId → Option KF
  | 0, _ => none
  | d + 1, t => match P.underlying t with
    | some (.int _) => some kInt
    | some .bool => some kBool
    | some .string => some kStr
    | some (.struct fs) => match fieldKeys (keyT P d) P fs.toList with
      | some r => some (kStruct r)
      | none => none
    | some (.array len e) => match keyT P d e, shapeA P e, sizeA P e with
      | some q, some s, some n => some (kArray q s n len)
      | _, _, _ => none
    | _ => none

/-! ### What the operations do -/

abbrev Ans := Option (AV × AH)
abbrev Rec := FuncId → List AV → AH → Ans
/-- An operand; an operation: it hands on its result and the heap. -/
abbrev X := Env → AV
abbrev C := Rec → Env → AH → (AV → AH → Ans) → Ans

section ops
variable {β : Type}
def ldA (H : AH) (x : AV) (k : AV → Option β) : Option β := onPtr (fun b off => onCells (fun vs => ob (nth vs off) k) (H.get b)) x
def ldsA (n : Nat) (H : AH) (x : AV) (k : AV → Option β) : Option β := onPtr (fun b off => onCells (fun vs => ob (cut vs off n) fun l => k (.agg l)) (H.get b)) x
def stA (n : Nat) (H : AH) (a : AV) (l : List AV) (k : AH → Option β) : Option β :=
  onPtr (fun b off => onCells (fun vs => bt (Nat.beq (lenL l) n) (bt (allL oneCell l) (ob (splice vs off l) fun vs' => k (H.put b (.cells vs'))) none) none) (H.get b)) a
def addA (off : Nat) (x : AV) (k : AV → Option β) : Option β := onPtr (fun b o => k (.ptr b (Nat.add o off))) x
def ixsA (s : Nat) (x i : AV) (k : AV → Option β) : Option β :=
  onSl none (fun b off len _ => onInt (fun _ n => nat n fun n => bt (Nat.blt n len) (k (.ptr b (Nat.add off (Nat.mul n s)))) none) i) x
def ixaA (len s : Nat) (x i : AV) (k : AV → Option β) : Option β :=
  onPtr (fun b off => onInt (fun _ n => nat n fun n => bt (Nat.blt n len) (k (.ptr b (Nat.add off (Nat.mul n s)))) none) i) x
def binI (f : BF) (x y : AV) (k : AV → Option β) : Option β := onInt (fun j a => onInt (fun j' b => bt (kindEq j j') (ob (f j a b) k) none) y) x
def binH (f : BF) (x y : AV) (k : AV → Option β) : Option β := onInt (fun j a => onInt (fun _ b => ob (f j a b) k) y) x
def binS (f : SF) (x y : AV) (k : AV → Option β) : Option β := onStr (fun a => onStr (fun b => ob (f a b) k) y) x
def eqOp (neg : Bool) (f : EF) (x y : AV) (k : AV → Option β) : Option β := ob (f x y) fun b => k (.bool (bt neg (bt b false true) b))
def pickA (c a b : AV) (k : AV → Option β) : Option β := onBool (fun t => bt t (k a) (k b)) c
def extA (i : Nat) (x : AV) (k : AV → Option β) : Option β := onTup (fun l => ob (nth l i) k) x
def boxA (H : AH) (l : List AV) (k : AV → AH → Option β) : Option β := H.new (.cells l) fun b H' => k (.ptr b 0) H'
def lenSA (x : AV) (k : AV → Option β) : Option β := onSl (k (.int .i64 (.ofNat 0))) (fun _ _ n _ => k (.int .i64 (.ofNat n))) x
def lenStrA (x : AV) (k : AV → Option β) : Option β := onStr (fun s => k (.int .i64 (.ofNat (lenL s)))) x
def lenMA (H : AH) (x : AV) (k : AV → Option β) : Option β :=
  onMap (k (.int .i64 (.ofNat 0))) (fun r => onEntries (fun es _ => k (.int .i64 (.ofNat (lenL es)))) (H.get r)) x
def bslA (n len : Nat) (z : List AV) (H : AH) (l : List (Nat × AV)) (k : AV → AH → Option β) : Option β :=
  ob (fillA (fun i => some (Nat.mul i n, n)) l z) fun cs => H.new (.cells cs) fun b H' => k (.sl b 0 len (.ex len)) H'
def notA (x : AV) (k : AV → Option β) : Option β := onBool (fun b => k (.bool (bt b false true))) x
def negA (x : AV) (k : AV → Option β) : Option β := onInt (fun j n => k (.int j (wrapA j (subI (.ofNat 0) n)))) x
def chkA (x : AV) (k : AV → Option β) : Option β := bt (oc (onPtr (fun _ _ => some ()) x) (oc (onFn (fun _ _ _ => some ()) x) false fun _ => true) fun _ => true) (k x) none
def bstrA (places : List (Nat × Nat)) (z : List AV) (l : List (Nat × AV)) (k : AV → Option β) : Option β := ob (fillA (nth places) l z) fun cs => k (.agg cs)
def barrA (n : Nat) (z : List AV) (l : List (Nat × AV)) (k : AV → Option β) : Option β := ob (fillA (fun i => some (Nat.mul i n, n)) l z) fun cs => k (.agg cs)
def cvA (j : IntKind) (x : AV) (k : AV → Option β) : Option β := onInt (fun _ n => k (.int j (wrapA j n))) x
/-- A bound of a slice: none: the default. -/
def boundA (y : Nat) (x : Option AV) (d : Nat) : Option Nat :=
  oc x (some d) fun v => onInt (fun _ n => nat n fun i => bt (Nat.ble i y) (some i) none) v
def slStrA (x : AV) (lo hi : Option AV) (k : AV → Option β) : Option β :=
  onStr (fun s => ob (boundA (lenL s) hi (lenL s)) fun h => ob (boundA h lo 0) fun l => ob (cut s l (Nat.sub h l)) fun r => k (.str r)) x
def slOff (m l off n : Nat) : Nat := bt (Nat.beq m l) off (Nat.add off (Nat.mul l n))
/-- 'x[lo:hi]' -/
def slA (n : Nat) (x : AV) (lo hi : Option AV) (k : AV → Option β) : Option β :=
  onSl (ob (boundA 0 hi 0) fun h => ob (boundA h lo 0) fun _ => k .nils)
    (fun b off len c => onCap
      (fun m => ob (boundA m hi len) fun h => ob (boundA h lo 0) fun l => bt (Nat.ble h m) (k (.sl b (slOff m l off n) (Nat.sub h l) (.ex (Nat.sub m l)))) none)
      (fun s => ob (boundA len hi len) fun h => ob (boundA h lo 0) fun l => bt (Nat.beq s n) (k (.sl b (Nat.add off (Nat.mul l n)) (Nat.sub h l) (.lo s))) none) c) x
/-- 'x[lo:hi:mx]' -/
def sl3A (n : Nat) (x : AV) (lo : Option AV) (hi mx : AV) (k : AV → Option β) : Option β :=
  onSl none
    (fun b off len c => ob (onCap some (fun _ => bt (Nat.beq len 0) none (some len)) c) fun lim => ob (boundA lim (some mx) 0) fun m => ob (boundA m (some hi) 0) fun h => ob (boundA h lo 0) fun l =>
      k (.sl b (slOff m l off n) (Nat.sub h l) (.ex (Nat.sub m l)))) x
def mksA (z : List AV) (H : AH) (l c : AV) (k : AV → AH → Option β) : Option β :=
  onInt (fun _ l => onInt (fun _ c => nat l fun l => nat c fun c => bt (Nat.ble l c) (bt (Nat.ble c 1048576)
    (H.new (.cells (repeatA z c)) fun b H' => k (.sl b 0 l (.ex c)) H') none) none) c) l

/-- What a slice appends: its length, its cells. -/
def srcA (n : Nat) (H : AH) (x : AV) (k : Nat → List AV → Option β) : Option β :=
  onSl (k 0 []) (fun b off len _ => onCells (fun vs => ob (cut vs off (Nat.mul len n)) (k len)) (H.get b)) x
def appNew (n : Nat) (H : AH) (m : Nat) (new : List AV) (k : AV → AH → Option β) : Option β :=
  bt (Nat.beq m 0) (k .nils H) (bt (Nat.ble m 1048576) (H.new (.cells new) fun b H' => k (.sl b 0 m (.lo n)) H') none)
def appEx (n : Nat) (H : AH) (b off len c : Nat) (vs : List AV) (m : Nat) (new : List AV) (k : AV → AH → Option β) : Option β :=
  bt (Nat.ble (Nat.add len m) c)
    (ob (splice vs (Nat.add off (Nat.mul len n)) new) fun vs' => k (.sl b off (Nat.add len m) (.ex c)) (H.put b (.cells vs')))
    (ob (cut vs off (Nat.mul len n)) fun old => H.new (.cells (appL old new)) fun b' H' => k (.sl b' 0 (Nat.add len m) (.lo n)) H')
def appLo (n : Nat) (H : AH) (b off len : Nat) (vs : List AV) (m : Nat) (new : List AV) (k : AV → AH → Option β) : Option β :=
  bt (Nat.beq m 0) (k (.sl b off len (.lo n)) H)
    (oc (splice vs (Nat.add off (Nat.mul len n)) new)
      (ob (cut vs off (Nat.mul len n)) fun old => (H.kill b).new (.cells (appL old new)) fun b' H' => k (.sl b' 0 (Nat.add len m) (.lo n)) H')
      fun vs' => k (.sl b off (Nat.add len m) (.lo n)) (H.put b (.cells vs')))
def appA (n : Nat) (H : AH) (s x : AV) (k : AV → AH → Option β) : Option β :=
  srcA n H x fun m new => bt (allL oneCell new)
    (onSl (appNew n H m new k)
      (fun b off len c => onCells (fun vs => bt (Nat.ble (Nat.add len m) 1048576)
        (onCap (fun c => appEx n H b off len c vs m new k) (fun s => bt (Nat.beq s n) (appLo n H b off len vs m new k) none) c) none) (H.get b)) s) none
def copyA (n : Nat) (H : AH) (d s : AV) (k : AV → AH → Option β) : Option β :=
  srcA n H s fun m new => onSl (k (.int .i64 (.ofNat 0)) H)
    (fun b off len _ => onCells (fun vs => ob (takeE new (Nat.mul (min m len) n)) fun l => bt (allL oneCell l)
      (ob (splice vs off l) fun vs' => k (.int .i64 (.ofNat (min m len))) (H.put b (.cells vs'))) none) (H.get b)) d
def capA (x : AV) (k : AV → Option β) : Option β := onSl (k (.int .i64 (.ofNat 0))) (fun _ _ _ c => onCap (fun m => k (.int .i64 (.ofNat m))) (fun _ => none) c) x
end ops

def minI (x y : AV) : Option AV := onInt (fun k a => onInt (fun _ b => some (.int k (bt (ltA b a) b a))) y) x
def maxI (x y : AV) : Option AV := onInt (fun k a => onInt (fun _ b => some (.int k (bt (ltA a b) b a))) y) x
def foldA (f : AV → AV → Option AV) : AV → List AV → Option AV
  | x, [] => some x
  | x, y :: l => ob (f x y) fun z => foldA f z l
def minL {β : Type} (f : AV → AV → Option AV) (l : List AV) (k : AV → Option β) : Option β :=
  match l with
  | x :: l => ob (foldA f x l) k
  | [] => none

/-! ### Maps -/


def findA (eq : EF) (k : AV) (es : List (AV × AV × Nat)) : Nat → Option (Option (Nat × AV)) :=
  List.rec (motive := fun _ => Nat → Option (Option (Nat × AV))) (fun _ => some none)
    (fun e _ ih i => ob (eq k e.1) fun r => bt r (some (some (i, e.2.1))) (ih (Nat.succ i))) es
def setAt (k v : AV) (es : List (AV × AV × Nat)) : Nat → Option (List (AV × AV × Nat)) :=
  List.rec (motive := fun _ => Nat → Option (List (AV × AV × Nat))) (fun _ => none)
    (fun e es ih i => Bool.rec (ob (ih (Nat.sub i 1)) fun r => some (e :: r)) (some ((k, v, e.2.2) :: es)) (Nat.beq i 0)) es
def sameL (f : AV → AV → Bool) (x : List AV) : List AV → Bool :=
  List.rec (motive := fun _ => List AV → Bool) (fun y => List.rec true (fun _ _ _ => false) y)
    (fun a _ ih y => List.rec false (fun b y _ => Bool.rec false (ih y) (f a b)) y) x

/-- Values without memory: the same value. -/
def sameF : Nat → AV → AV → Bool
  | 0, _, _ => false
  | d + 1, x, y => oc (onAgg (fun a => onAgg (fun b => some (sameL (sameF d) a b)) y) x)
    (oc (onInt (fun j a => onInt (fun k b => some (bt (kindEq j k) (eqA a b) false)) y) x)
      (oc (onBool (fun a => onBool (fun b => some (bt a b (bt b false true))) y) x)
        (oc (onStr (fun a => onStr (fun b => some (eqL a b)) y) x) false fun b => b) fun b => b) fun b => b) fun b => b

section maps
variable {β : Type}
def lookA (ok : KF) (eq : EF) (z : AV) (two : Bool) (H : AH) (x key : AV) (k : AV → Option β) : Option β :=
  bt (ok key) (ob (onMap (some none) (fun r => onEntries (fun es _ => findA eq key es 0) (H.get r)) x) fun r =>
    oc r (k (bt two (.tup [z, .bool false]) z)) fun p => k (bt two (.tup [p.2, .bool true]) p.2)) none
def mputA (ok : KF) (eq : EF) (H : AH) (m key v : AV) (k : AH → Option β) : Option β :=
  bt (ok key) (onMap none (fun r => onEntries (fun es clock => ob (findA eq key es 0) fun q =>
    oc q (k (H.put r (.map (appL es [(key, v, clock)]) (Nat.succ clock)))) fun p =>
      ob (nth es p.1) fun e => bt (sameF eqDepth e.1 key) (ob (setAt key v es p.1) fun es' => k (H.put r (.map es' clock))) none) (H.get r)) m) none
def rngA (H : AH) (x : AV) (k : AV → AH → Option β) : Option β :=
  onMap none (fun m => onEntries (fun _ clock => H.new (.iter m clock [] clock) fun b H' => k (.ptr b 0) H') (H.get m)) x
/-- The next entry of a map that holds at most one. -/
def nextA (H : AH) (x : AV) (k : AV → AH → Option β) : Option β :=
  onPtr (fun r off => bt (Nat.beq off 0) (onIter (fun m since seen stepped => onEntries (fun es clock =>
    match seen with
    | [] => match es with
      | [] => k (.tup [.bool false]) H
      | [e] => bt (Nat.blt e.2.2 since) (k (.tup [.bool true, e.1, e.2.1]) (H.put r (.iter m since [e.2.2] clock))) none
      | _ => none
    | [s] => match es with
      | [e] => bt (Nat.beq e.2.2 s) (bt (Nat.blt e.2.2 stepped) (k (.tup [.bool false]) H) none) none
      | _ => none
    | _ => none) (H.get m)) (H.get r)) none) x
/-- The entry at which an iterator stands, for a map of one entry. -/
def entryA (H : AH) (x : AV) (k : AV → Option β) : Option β :=
  onPtr (fun r off => bt (Nat.beq off 0) (onIter (fun m _ seen stepped => onEntries (fun es clock =>
    match es, seen with
    | [e], [s] => bt (Nat.beq e.2.2 s) (bt (Nat.beq clock stepped) (k (.tup [e.1, e.2.1])) none) none
    | _, _ => none) (H.get m)) (H.get r)) none) x
def fldA (s : Option Nat) (off : Nat) (x : AV) (k : AV → Option β) : Option β := onAgg (fun cs => ob (partF s cs off) k) x
def chrA (x i : AV) (k : AV → Option β) : Option β := onStr (fun s => onInt (fun _ n => nat n fun n => ob (nth s n) fun c => k (.int .u8 (.ofNat c))) i) x
def eltA (len n : Nat) (s : Option Nat) (x i : AV) (k : AV → Option β) : Option β :=
  onAgg (fun cs => onInt (fun _ j => nat j fun j => bt (Nat.blt j len) (ob (partF s cs (Nat.mul j n)) k) none) i) x
end maps

/-! ### Compiled operations -/

abbrev slot (t : Nat) : X := slotG t
def konst (v : AV) : X := fun _ => v

def getL (l : List X) (env : Env) : List AV := mapL (fun x => x env) l
def getPs (l : List (Nat × X)) (env : Env) : List (Nat × AV) := mapL (fun p => (p.1, p.2 env)) l
def getO (x : Option X) (env : Env) : Option AV := ob x fun x => some (x env)

abbrev rMv (x : X) : C := fun _ env H k => k (x env) H
abbrev rLd (x : X) : C := fun _ env H k => ldA H (x env) fun v => k v H
abbrev rLds (n : Nat) (x : X) : C := fun _ env H k => ldsA n H (x env) fun v => k v H
abbrev rSt (n : Nat) (a x : X) : C := fun _ env H k => stA n H (a env) (cellsOf (x env)) fun H' => k undef H'
abbrev r1 (f : AV → (AV → Ans) → Ans) (x : X) : C := fun _ env H k => f (x env) fun v => k v H
abbrev r2 (f : AV → AV → (AV → Ans) → Ans) (x y : X) : C := fun _ env H k => f (x env) (y env) fun v => k v H
abbrev rPick (c a b : X) : C := fun _ env H k => pickA (c env) (a env) (b env) fun v => k v H
abbrev rCallF (f : FuncId) (l : List X) : C := fun rec env H k => ob (rec f (getL l env) H) fun r => un r k
abbrev rCallV (f : X) (l : List X) : C := fun rec env H k => onFn (fun g first cap => ob (rec g (appL first (appL (getL l env) cap)) H) fun r => un r k) (f env)
abbrev rBox (x : X) : C := fun _ env H k => boxA H (cellsOf (x env)) k
abbrev rMk (l : List AV) : C := fun _ _ H k => boxA H l k
abbrev rLenM (x : X) : C := fun _ env H k => lenMA H (x env) fun v => k v H
abbrev rLenC (n : Nat) : C := fun _ _ H k => k (.int .i64 (.ofNat n)) H
abbrev rBsl (n len : Nat) (z : List AV) (l : List (Nat × X)) : C := fun _ env H k => bslA n len z H (getPs l env) k
abbrev rBstr (places : List (Nat × Nat)) (z : List AV) (l : List (Nat × X)) : C := fun _ env H k => bstrA places z (getPs l env) fun v => k v H
abbrev rBarr (n : Nat) (z : List AV) (l : List (Nat × X)) : C := fun _ env H k => barrA n z (getPs l env) fun v => k v H
abbrev rSlStr (x : X) (lo hi : Option X) : C := fun _ env H k => slStrA (x env) (getO lo env) (getO hi env) fun v => k v H
abbrev rSl (n : Nat) (x : X) (lo hi : Option X) : C := fun _ env H k => slA n (x env) (getO lo env) (getO hi env) fun v => k v H
abbrev rSl3 (n : Nat) (x : X) (lo : Option X) (hi mx : X) : C := fun _ env H k => sl3A n (x env) (getO lo env) (hi env) (mx env) fun v => k v H
abbrev rMks (z : List AV) (l c : X) : C := fun _ env H k => mksA z H (l env) (c env) k
abbrev rFunc (f : FuncId) (a b : List X) : C := fun _ env H k => k (.fn f (getL a env) (getL b env)) H
abbrev rMkm : C := fun _ _ H k => H.new (.map [] 0) fun b H' => k (.mp b) H'
abbrev rLook (ok : KF) (eq : EF) (z : AV) (two : Bool) (x key : X) : C := fun _ env H k => lookA ok eq z two H (x env) (key env) fun v => k v H
abbrev rMput (ok : KF) (eq : EF) (m key v : X) : C := fun _ env H k => mputA ok eq H (m env) (key env) (v env) fun H' => k undef H'
abbrev rApp (n : Nat) (s x : X) : C := fun _ env H k => appA n H (s env) (x env) k
abbrev rCopy (n : Nat) (d s : X) : C := fun _ env H k => copyA n H (d env) (s env) k
abbrev rMinL (f : AV → AV → Option AV) (l : List X) : C := fun _ env H k => minL f (getL l env) fun v => k v H
abbrev rRng (x : X) : C := fun _ env H k => rngA H (x env) k
abbrev rNext (x : X) : C := fun _ env H k => nextA H (x env) k
abbrev rEntry (x : X) : C := fun _ env H k => entryA H (x env) fun v => k v H

def cX (N : Nat) : Operand → Option X
  | .tmp t => match Nat.blt t N with
    | true => some (getF (digit (Nat.div t 16)) (digit (Nat.mod t 16)))
    | false => none
  | .const v => (constA 4 v).map konst
  | .func f => some (konst (.fn f [] []))
  | .global _ => none

def cL (N : Nat) : List Operand → Option (List X)
  | [] => some []
  | x :: l => match cX N x, cL N l with
    | some a, some b => some (a :: b)
    | _, _ => none

def cP (N : Nat) : List (Nat × Operand) → Option (List (Nat × X))
  | [] => some []
  | (i, x) :: l => match cX N x, cP N l with
    | some a, some b => some ((i, a) :: b)
    | _, _ => none

def cO (N : Nat) : Option Operand → Option (Option X)
  | none => some none
  | some x => (cX N x).map some

def c1 (N : Nat) (x : Operand) (f : X → C) : Option C := (cX N x).map f
def c2 (N : Nat) (x y : Operand) (f : X → X → C) : Option C :=
  match cX N x, cX N y with
  | some a, some b => some (f a b)
  | _, _ => none

def cBin (P : Program) (N : Nat) (op : BinOp) (t : TypeId) (x y : Operand) : Option C :=
  match P.underlying t with
  | some (.int _) => match op with
    | .shl => c2 N x y (r2 (binH fShl))
    | .shr => c2 N x y (r2 (binH fShr))
    | _ => match intOp op with
      | some f => c2 N x y (r2 (binI f))
      | none => none
  | some .string => match strOp op with
    | some f => c2 N x y (r2 (binS f))
    | none => none
  | some _ => match P.eqGuardType P.depth t, eqT P eqDepth t with
    | false, some f => match op with
      | .eql => c2 N x y (r2 (eqOp false f))
      | .neq => c2 N x y (r2 (eqOp true f))
      | _ => none
    | _, _ => none
  | none => none

def cBuiltin (P : Program) (N : Nat) (b : Builtin) (ts : List TypeId) (args : List Operand) : Option C :=
  match b with
  | .len => match ts, args with
    | t :: _, [x] => match P.underlying t with
      | some .string => c1 N x (r1 lenStrA)
      | some (.slice _) => c1 N x (r1 lenSA)
      | some (.map _ _) => c1 N x rLenM
      | some (.array n _) => c1 N x fun _ => rLenC n
      | _ => none
    | _, _ => none
  | .cap => match ts, args with
    | t :: _, [x] => match P.underlying t with
      | some (.slice _) => c1 N x (r1 capA)
      | _ => none
    | _, _ => none
  | .append => match ts, args with
    | [t, u], [s, x] => match P.underlying t, P.underlying u with
      | some (.slice e), some (.slice _) => match sizeA P e, zeroA P e, Nat.ble (bytesA P e) 65536 with
        | some (n + 1), some z, true => match Nat.beq (lenL (cellsOf z)) (n + 1) with
          | true => c2 N s x (rApp (n + 1))
          | false => none
        | _, _, _ => none
      | _, _ => none
    | _, _ => none
  | .copy => match ts, args with
    | t :: _, [d, s] => match P.underlying t with
      | some (.slice e) => match sizeA P e with
        | some n => c2 N d s (rCopy n)
        | none => none
      | _ => none
    | _, _ => none
  | .min => (cL N args).map (rMinL minI)
  | .max => (cL N args).map (rMinL maxI)
  | _ => none

def cCall (P : Program) (N : Nat) (c : Call) : Option C :=
  match c.callee with
  | .value f => match cL N c.args.toList with
    | some l => match f with
      | .func g => some (rCallF g l)
      | _ => (cX N f).map fun x => rCallV x l
    | none => none
  | .builtin b => cBuiltin P N b c.argTypes.toList c.args.toList
  | .invoke .. => none

def cMput (P : Program) (N : Nat) (t : TypeId) (m k x : Operand) : Option C :=
  match mapT P t with
  | some (kt, _) => match keyT P eqDepth kt, eqT P eqDepth kt with
    | some ok, some eq => match cX N m, cX N k, cX N x with
      | some m, some k, some x => some (rMput ok eq m k x)
      | _, _, _ => none
    | _, _ => none
  | none => none

def cOp (P : Program) (N : Nat) (op : Op) : Option C :=
  match op with
  | .move x => c1 N x rMv
  | .assign x => c1 N x rMv
  | .load t x => match shapeA P t with
    | some none => c1 N x rLd
    | some (some n) => c1 N x (rLds n)
    | none => none
  | .store t a x => match sizeA P t with
    | some n => c2 N a x (rSt n)
    | none => none
  | .fieldAddr t x i => match P.underlying t with
    | some (.struct fs) => match fs[i]? with
      | some f => match sizeA P f.type with
        | some (_ + 1) => c1 N x (r1 (addA f.offset))
        | _ => none
      | none => none
    | _ => none
  | .indexAddr t x i => match P.underlying t with
    | some (.slice e) => match sizeA P e with
      | some s => c2 N x i (r2 (ixsA s))
      | none => none
    | some (.array len e) => match sizeA P e with
      | some s => c2 N x i (r2 (ixaA len s))
      | none => none
    | _ => none
  | .binOp op t x y _ => cBin P N op t x y
  | .call c => cCall P N c
  | .pick c a b => match cX N c, cX N a, cX N b with
    | some c, some a, some b => some (rPick c a b)
    | _, _, _ => none
  | .extract x i => c1 N x (r1 (extA i))
  | .box _ x => c1 N x rBox
  | .alloc t => (zeroA P t).map fun z => rMk (cellsOf z)
  | .buildSlice t len parts => match P.underlying t, cP N parts.toList with
    | some (.slice e), some l => match sizeA P e, zeroA P e with
      | some n, some z => match Nat.ble (len * n) 16777216, Nat.beq (lenL (cellsOf z)) n with
        | true, true => some (rBsl n len (repeatA (cellsOf z) len) l)
        | _, _ => none
      | _, _ => none
    | _, _ => none
  | .unOp .not _ x => c1 N x (r1 notA)
  | .unOp .neg _ x => c1 N x (r1 negA)
  | .nilCheck x => c1 N x (r1 chkA)
  | .build t parts => match zeroA P t, cP N parts.toList with
    | some z, some l => match P.underlying t with
      | some (.struct fs) => match fs.toList.mapM (fun f => (P.info? f.type).map fun i => (f.offset, i.size)) with
        | some places => some (rBstr places (cellsOf z) l)
        | none => none
      | some (.array _ e) => match sizeA P e with
        | some n => some (rBarr n (cellsOf z) l)
        | none => none
      | _ => none
    | _, _ => none
  | .convert s d x => match P.underlying s, P.underlying d with
    | some _, some (.int k) => c1 N x (r1 (cvA k))
    | _, _ => none
  | .slice t x lo hi mx => match cX N x, cO N lo, cO N hi, cO N mx with
    | some x, some l, some h, some m => match P.underlying t with
      | some .string => match m with
        | none => some (rSlStr x l h)
        | some _ => none
      | some (.slice e) => match sizeA P e with
        | some n => match m with
          | none => some (rSl n x l h)
          | some m => match h with
            | some h => some (rSl3 n x l h m)
            | none => none
        | none => none
      | _ => none
    | _, _, _, _ => none
  | .makeSlice t l c => match P.underlying t with
    | some (.slice e) => match sizeA P e, zeroA P e, Nat.ble (bytesA P e) 65536 with
      | some n, some z, true => match Nat.beq (lenL (cellsOf z)) n with
        | true => c2 N l c (rMks (cellsOf z))
        | false => none
      | _, _, _ => none
    | _ => none
  | .makeFunc (.func f) first cap => match cL N first.toList, cL N cap.toList with
    | some a, some b => some (rFunc f a b)
    | _, _ => none
  | .makeMap _ none => some rMkm
  | .lookup t x k two => match mapT P t with
    | some (kt, et) => match zeroA P et, keyT P eqDepth kt, eqT P eqDepth kt with
      | some z, some ok, some eq => c2 N x k (rLook ok eq z two)
      | _, _, _ => none
    | none => none
  | .mapUpdate t m k x => cMput P N t m k x
  | .insert t m k x => cMput P N t m k x
  | .field t x i => match P.underlying t with
    | some (.struct fs) => match fs[i]? with
      | some f => match shapeA P f.type with
        | some s => c1 N x (r1 (fldA s f.offset))
        | none => none
      | none => none
    | _ => none
  | .index t x i => match P.underlying t with
    | some .string => c2 N x i (r2 chrA)
    | some (.array len e) => match sizeA P e, shapeA P e with
      | some n, some s => c2 N x i (r2 (eltA len n s))
      | _, _ => none
    | _ => none
  | .range t x => match mapT P t with
    | some _ => c1 N x rRng
    | none => none
  | .next x false => c1 N x rNext
  | .entry x => c1 N x rEntry
  | _ => none

/-! ### Regions -/

/-- 0: pure or a new block; 1: reads; 2: an effect. -/
def kindA (P : Program) (op : Op) : Nat :=
  match op with
  | .load .. | .lookup .. | .entry _ => 1
  | .store .. | .mapUpdate .. | .insert .. | .next .. | .range .. => 2
  | .call c => match c.callee with
    | .builtin .len => match c.argTypes.toList with
      | t :: _ => match P.underlying t with
        | some (.map ..) => 1
        | _ => 0
      | [] => 2
    | .builtin .cap | .builtin .min | .builtin .max => 0
    | _ => 2
  | _ => 0

abbrev Step := Rec → Env → AH → (Env → AH → Ans) → Ans
def pNone : AV → Env → Env := fun _ env => env
def putD (d : Option Nat) : AV → Env → Env :=
  match d with
  | none => pNone
  | some d => putF (digit (Nat.div d 16)) (digit (Nat.mod d 16))
/-- A step under a guard: what it hands on. -/
def gd (want : Bool) (g : AV) (H : AH) (c : (AV → AH → Ans) → Ans) (k : AV → AH → Ans) : Ans :=
  onGuard (k undef H) (fun b => bt (bt want b (bt b false true)) (c k) (k undef H)) g
/-- A step: put: where the result goes. -/
abbrev stepP (put : AV → Env → Env) (c : C) : Step := fun rec env H k => c rec env H fun v H' => k (put v env) H'
/-- .. under a guard. -/
abbrev stepG (g : X) (want : Bool) (put : AV → Env → Env) (c : C) : Step := fun rec env H k =>
  gd want (g env) H (fun k' => c rec env H k') (fun v H' => k (put v env) H')
/-- A read of a step for the pending ones: none: it is not wanted. -/
def readP (c : C) : Env → Option (AH → Option AV) := fun env => some fun H => ob (c (fun _ _ _ => none) env H fun v H => some (v, H)) fun r => un r fun v _ => some v
def readG (g : X) (want : Bool) (c : C) : Env → Option (AH → Option AV) := fun env =>
  onGuard none (fun b => bt (bt want b (bt b false true)) (readP c env) none) (g env)

/-- A compiled operation: its kind, its step, how it reads. -/
structure I where
  kind : Nat
  step : Step
  read : Env → Option (AH → Option AV)

def okDst (n : Nat) (d : Option Nat) : Bool :=
  match d with
  | none => true
  | some d => Nat.blt d n

def cI (P : Program) (n : Nat) (ops : Array Oper) (o : Oper) : Option I :=
  match okDst n o.dst with
  | true => match o.guard with
    | none => (cOp P n o.op).map fun c => ⟨kindA P o.op, stepP (putD o.dst) c, readP c⟩
    | some (j, want) => match (ops[j]?).bind (·.dst) with
      | some d => match Nat.blt d n with
        | true => (cOp P n o.op).map fun c => ⟨kindA P o.op, stepG (slot d) want (putD o.dst) c, readG (slot d) want c⟩
        | false => none
      | none => none
  | false => none

def cIs (P : Program) (n : Nat) (ops : Array Oper) : List Oper → Option (List I)
  | [] => some []
  | o :: l => match cI P n ops o with
    | some i => match cIs P n ops l with
      | some is => some (i :: is)
      | none => none
    | none => none


abbrev seqA (l : List I) : Step :=
  List.rec (motive := fun _ => Step) (fun _ env H k => k env H) (fun i _ ih rec env H k => i.step rec env H fun env' H' => ih rec env' H' k) l

/-! A region that draws its order: the operations in an order in which whatever has no effect comes as early as it can; what is read is read again behind each effect that is not bound to it. -/

/-- For each operation the set (as bits) of those that must stand before it. -/
def ancs : List Oper → List Nat → List Nat
  | [], acc => acc
  | o :: l, acc => ancs l (acc ++ [o.after.toList.foldl (fun s e => match Region.binds .any e with
      | true => Nat.lor s (Nat.lor (Nat.shiftLeft 1 e.on) ((nth acc e.on).getD 0))
      | false => s) 0])

def bit (s i : Nat) : Bool := Nat.beq (Nat.mod (Nat.shiftRight s i) 2) 1

/-- The early order: before each effect whatever is not bound to it and not placed yet. -/
def earlyGo (anc : List Nat) : List Nat → List Nat → List Nat
  | [], rest => rest
  | e :: es, rest => rest.filter (fun i => !bit ((nth anc i).getD 0) e) ++ e :: earlyGo anc es (rest.filter fun i => bit ((nth anc i).getD 0) e)

def isEff (is : List I) (i : Nat) : Bool :=
  match nth is i with
  | some o => Nat.beq o.kind 2
  | none => false

def early (is : List I) (anc : List Nat) : List Nat :=
  earlyGo anc ((List.range is.length).filter fun i => isEff is i) ((List.range is.length).filter fun i => !isEff is i)

/-- Each behind what must stand before it; what stands behind an effect must stand there. -/
def orderGo (is : List I) (anc : List Nat) : List Nat → Nat → Nat → Bool
  | [], seen, _ => Nat.beq seen (Nat.sub (Nat.shiftLeft 1 is.length) 1)
  | i :: l, seen, effs => match bit seen i, Nat.beq (Nat.land ((nth anc i).getD 0) seen) ((nth anc i).getD 0), Nat.beq (Nat.land effs ((nth anc i).getD 0)) effs with
    | false, true, true => orderGo is anc l (Nat.lor seen (Nat.shiftLeft 1 i)) (match isEff is i with | true => Nat.lor effs (Nat.shiftLeft 1 i) | false => effs)
    | _, _, _ => false

/-- The slots that an operation names, its own and the guard's among them. -/
def namesA (ops : Array Oper) (o : Oper) : List Nat :=
  o.dst.toList ++ (o.op.operands.toList.filterMap fun | .tmp t => some t | _ => none) ++
  (match o.guard with | none => [] | some (j, _) => ((ops[j]?).bind (·.dst)).toList)

/-- Does neither write a slot that the other one names? -/
def apartA (ops : Array Oper) (o q : Oper) : Bool :=
  (match o.dst with | none => true | some d => !(namesA ops q).any (Nat.beq d)) && (match q.dst with | none => true | some d => !(namesA ops o).any (Nat.beq d))

/-- Of any two that are not bound neither writes a slot that the other one names. 'l': the operations from number j on. -/
def slotsGo (ops : Array Oper) (anc : Nat) (q : Oper) : List Oper → Nat → Bool
  | [], _ => true
  | o :: l, i => match bit anc i with
    | true => slotsGo ops anc q l (i + 1)
    | false => match apartA ops o q with
      | true => slotsGo ops anc q l (i + 1)
      | false => false
def slotsOk (ops : Array Oper) (opl : List Oper) : List Oper → List Nat → Nat → Bool
  | [], _, _ => true
  | _ :: _, [], _ => false
  | q :: l, a :: anc, j => match slotsGo ops a q (opl.take j) 0 with
    | true => slotsOk ops opl l anc (j + 1)
    | false => false

def orderOk (ops : Array Oper) (is : List I) (anc : List Nat) (l : List Nat) : Bool :=
  orderGo is anc l 0 0 && slotsOk ops ops.toList ops.toList anc 0

/-- A placed operation: its number, what must stand before it. -/
structure J where
  i : Nat
  anc : Nat
  it : I

def placed (is : List I) (anc : List Nat) : List Nat → Option (List J)
  | [] => some []
  | i :: l => match nth is i, nth anc i, placed is anc l with
    | some it, some a, some js => some (⟨i, a, it⟩ :: js)
    | _, _, _ => none

/-- A pending read: its number, how it is read, what it read. -/
structure Pend where
  i : Nat
  rd : AH → Option AV
  v : AV

def beqStep (ih : AV → AV → Bool) (x y : AV) : Bool :=
  match x with
  | .bool a => match y with | .bool b => a == b | _ => false
  | .int j a => match y with | .int k b => kindEq j k && eqA a b | _ => false
  | .str a => match y with | .str b => eqL a b | _ => false
  | .nilp => match y with | .nilp => true | _ => false
  | .nils => match y with | .nils => true | _ => false
  | .nilm => match y with | .nilm => true | _ => false
  | .nilfn => match y with | .nilfn => true | _ => false
  | .ptr b o => match y with | .ptr c p => Nat.beq b c && Nat.beq o p | _ => false
  | .sl b o l c => match y with
    | .sl b' o' l' c' => Nat.beq b b' && Nat.beq o o' && Nat.beq l l' && (match c with | .ex a => (match c' with | .ex b => Nat.beq a b | .lo _ => false) | .lo a => (match c' with | .lo b => Nat.beq a b | .ex _ => false))
    | _ => false
  | .mp a => match y with | .mp b => Nat.beq a b | _ => false
  | .fn f a b => match y with | .fn g a' b' => Nat.beq f g && sameL ih a a' && sameL ih b b' | _ => false
  | .agg a => match y with | .agg b => sameL ih a b | _ => false
  | .tup a => match y with | .tup b => sameL ih a b | _ => false


def beqA (f : Nat) : AV → AV → Bool :=
  Nat.rec (motive := fun _ => AV → AV → Bool) (fun _ _ => false) (fun _ ih => beqStep ih) f

def pendOk (anc : Nat) (H : AH) : List Pend → Bool
  | [] => true
  | p :: l => bt (bit anc p.i) (pendOk anc H l) (oc (p.rd H) false fun v => bt (beqA 8 p.v v) (pendOk anc H l) false)

/-- The pending reads behind an operation; none: one of them reads something else now. -/
def pendA (j : J) (pend : List Pend) (env : Env) (H H' : AH) : Option (List Pend) :=
  bt (Nat.beq j.it.kind 0) (some pend)
    (bt (Nat.beq j.it.kind 1)
      (oc (j.it.read env) (some pend) fun rd => ob (rd H) fun v => some (⟨j.i, rd, v⟩ :: pend))
      (bt (pendOk j.anc H' pend) (some pend) none))

abbrev drawA (l : List J) : List Pend → Step :=
  List.rec (motive := fun _ => List Pend → Step) (fun _ _ env H k => k env H)
    (fun j _ ih pend rec env H k => j.it.step rec env H fun env' H' => ob (pendA j pend env H H') fun pend' => ih pend' rec env' H' k) l

def stepNone : Step := fun _ _ _ _ => none

/-- A region. -/
def cR (P : Program) (n : Nat) (ops : Array Oper) (draw : Bool) : Step :=
  match cIs P n ops ops.toList with
  | some is => match draw with
    | false => seqA is
    | true => match orderOk ops is (ancs ops.toList []) (early is (ancs ops.toList [])) with
      | true => match placed is (ancs ops.toList []) (early is (ancs ops.toList [])) with
        | some js => drawA js []
        | none => stepNone
      | false => stepNone
  | none => stepNone

/-! ### Code and calls -/

/-- Code: it hands on to what stands behind it, behind the block that it leaves, or to the return. -/
abbrev CF := Rec → Env → AH → (Env → AH → Ans) → (Nat → Env → AH → Ans) → (Env → AH → Ans) → Ans

def loopFuel : Nat := 100000

abbrev kSkip : CF := fun _ env H k _ _ => k env H
abbrev kNone : CF := fun _ _ _ _ _ _ => none
abbrev kRegion (r : Step) : CF := fun rec env H k _ _ => r rec env H k
abbrev kSeq (a b : CF) : CF := fun rec env H k e r => a rec env H (fun env H => b rec env H k e r) e r
abbrev kCond (x : X) (a b : CF) : CF := fun rec env H k e r => onBool (fun t => bt t (a rec env H k e r) (b rec env H k e r)) (x env)
abbrev kBlock (id : Nat) (a : CF) : CF := fun rec env H k e r => a rec env H k (fun j env H => bt (Nat.beq j id) (k env H) (e j env H)) r
abbrev kExit (id : Nat) : CF := fun _ env H _ e _ => e id env H
abbrev kRet : CF := fun _ env H _ _ r => r env H

def kLoopN (a : CF) (f : Nat) : CF :=
  Nat.rec (motive := fun _ => CF) kNone (fun _ ih rec env H k e r => a rec env H (fun env H => ih rec env H k e r) e r) f

def kLoop (lf : Nat) (a : CF) : CF := kLoopN a lf
abbrev kCondO (x : Option X) (a b : CF) : CF := oc x kNone fun x => kCond x a b

def codeA (P : Program) (lf n : Nat) (c : Code) : CF :=
  Code.rec (motive := fun _ => CF) kSkip (fun _ ops draw => kRegion (cR P n ops draw)) (fun _ _ a b => kSeq a b) (fun x _ _ a b => kCondO (cX n x) a b)
    (fun id _ a => kBlock id a) (fun _ a => kLoop lf a) (fun _ _ _ _ _ _ => kNone) (fun id => kExit id) (fun _ _ => kNone) (fun _ => kNone) (fun _ => kNone) kRet (fun _ => kNone) c

/-- A result: how it is read. -/
abbrev VF := Env → AH → (AV → Ans) → Ans
abbrev vTmp (x : X) : VF := fun env _ k => k (x env)
abbrev vLd (x : X) : VF := fun env H k => ldA H (x env) k
abbrev vLds (n : Nat) (x : X) : VF := fun env H k => ldsA n H (x env) k
def cV (P : Program) (n : Nat) (r : ResultVar) : Option VF :=
  match r with
  | .tmp t => match Nat.blt t n with
    | true => some (vTmp (slot t))
    | false => none
  | .cell a t => match Nat.blt a n, shapeA P t with
    | true, some none => some (vLd (slot a))
    | true, some (some m) => some (vLds m (slot a))
    | _, _ => none
def cVs (P : Program) (n : Nat) : List ResultVar → Option (List VF)
  | [] => some []
  | r :: l => match cV P n r, cVs P n l with
    | some v, some vs => some (v :: vs)
    | _, _ => none

abbrev getVs (l : List VF) (env : Env) (H : AH) : (List AV → Ans) → Ans :=
  List.rec (motive := fun _ => (List AV → Ans) → Ans) (fun k => k []) (fun v _ ih k => v env H fun x => ih fun xs => k (x :: xs)) l
def enterA (l : List AV) : Nat → Env :=
  List.rec (motive := fun _ => Nat → Env) (fun _ => emptyEnv) (fun v _ ih i => slotP i v (ih (Nat.succ i))) l
def tupA (l : List AV) : AV := List.rec (motive := fun _ => AV) (.tup []) (fun v r _ => List.rec (motive := fun _ => AV) v (fun _ _ _ => .tup (v :: r)) r) l

/-- What is called: a function with a body that is not the runtime's NumGoroutine. -/
structure F where
  n : Nat
  body : CF
  results : List VF

def bodyA (P : Program) (lf : Nat) (f : FuncId) : Option F :=
  match P.funcs[f]? with
  | some fn => match fn.body with
    | some c => match decide (fn.name = "runtime.NumGoroutine"), Nat.ble fn.ntmps 256 with
      | false, true => match cVs P fn.ntmps fn.results.toList with
        | some vs => some ⟨fn.ntmps, codeA P lf fn.ntmps c, vs⟩
        | none => none
      | _, _ => none
    | none => none
  | none => none

abbrev retA (vs : List VF) (env : Env) (H : AH) : Ans := getVs vs env H fun l => some (tupA l, H)
def enterF (rec : Rec) (args : List AV) (H : AH) (f : F) : Ans :=
  F.rec (motive := fun _ => Ans) (fun n body vs => bt (Nat.ble (lenL args) n) (body rec (enterA args 0) H (retA vs) (fun _ _ _ => none) (retA vs)) none) f

def callStep (P : Program) (lf : Nat) (orc rec : Rec) : Rec := fun f args H => oc (orc f args H) (ob (bodyA P lf f) (enterF rec args H)) some


def ev (P : Program) (lf : Nat) (orc : Rec) (f : Nat) : Rec :=
  Nat.rec (motive := fun _ => Rec) (fun _ _ _ => none) (fun _ ih => callStep P lf orc ih) f

end
end Go.Ev

