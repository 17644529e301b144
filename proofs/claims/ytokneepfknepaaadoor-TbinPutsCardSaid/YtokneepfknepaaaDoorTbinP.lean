/- The plain functions of layer 6 (types in bytes), without the program: a reader of bytes, and what is put. -/
import Derived.Test.YtokneepfknepaaaDoorLebP
set_option linter.unusedSimpArgs false
set_option linter.unusedVariables false
namespace Go.Proofs.YtokneepfknepaaaDoor

structure HeapT where
  kind : Int
  n : Int
deriving DecidableEq, Inhabited

structure ValT where
  kind : Int
  null : Bool
  heap : HeapT
deriving DecidableEq, Inhabited

structure FieldT where
  pack : Int
  val : ValT
  mut_ : Bool
deriving DecidableEq, Inhabited

structure CompT where
  kind : Int
  params : List ValT
  results : List ValT
  fields : List FieldT
deriving DecidableEq, Inhabited

structure SubT where
  final_ : Bool
  supers : List HeapT
  comp : CompT
deriving DecidableEq, Inhabited

def HeapT.zero : HeapT := ⟨0, 0⟩
def ValT.zero : ValT := ⟨0, false, ⟨0, 0⟩⟩
def CompT.zero : CompT := ⟨0, [], [], []⟩
def SubT.zero : SubT := ⟨false, [], ⟨0, [], [], []⟩⟩

/-- Where a reader stands: its place, the first error, that one's place. -/
structure RdS where
  at_ : Nat
  err : Int
  errAt : Int
deriving DecidableEq, Inhabited

def RdS.fail (s : RdS) (e a : Int) : RdS := if s.err = 0 ∧ e ≠ 0 then { s with err := e, errAt := a } else s
def RdS.refuse (s : RdS) (e : Int) (a : Nat) : RdS := { s.fail e a with at_ := a }
def RdS.form (s : RdS) (a : Nat) : RdS := if s.err = 0 then s.refuse 60 a else s
def RdS.next (s : RdS) : RdS := { s with at_ := s.at_ + 1 }
def RdS.told {α : Type} (s : RdS) (z t : α) : α := if s.err = 0 then t else z

def rPeek (bs : List UInt8) (s : RdS) : Nat := if s.err = 0 ∧ s.at_ < bs.length then (bs.getD s.at_ 0).toNat else 0
def rByte (bs : List UInt8) (s : RdS) : Nat × RdS :=
  if s.err = 0 ∧ s.at_ < bs.length then ((bs.getD s.at_ 0).toNat, s.next) else (0, s.fail 10 s.at_)
def rU (bs : List UInt8) (bits : Nat) (s : RdS) : Nat × RdS :=
  if s.err = 0 then
    if (lebRead bs s.at_ bits false).2.2 = 0 then ((lebRead bs s.at_ bits false).1, { s with at_ := (lebRead bs s.at_ bits false).2.1 })
    else (0, s.fail (lebRead bs s.at_ bits false).2.2 s.at_)
  else (0, s)
def rS (bs : List UInt8) (bits : Nat) (s : RdS) : Int × RdS :=
  if s.err = 0 then
    if (lebRead bs s.at_ bits true).2.2 = 0 then (toI64 (lebRead bs s.at_ bits true).1, { s with at_ := (lebRead bs s.at_ bits true).2.1 })
    else (0, s.fail (lebRead bs s.at_ bits true).2.2 s.at_)
  else (0, s)
def rCount (bs : List UInt8) (s : RdS) : Nat × RdS :=
  if bs.length - (rU bs 32 s).2.at_ < (rU bs 32 s).1 then (0, (rU bs 32 s).2.refuse 10 s.at_) else rU bs 32 s

def heapsL : List Int := [11, 5, 4, 3, 2, 1, 9, 7, 6, 10, 8, 12]
/-- The heap type of one byte; kind 0: none. -/
def givenK (c : Nat) : Int := if c < 105 ∨ 117 ≤ c then 0 else heapsL.getD (c - 105) 0

def rHeap (bs : List UInt8) (s : RdS) : HeapT × RdS :=
  if givenK (rPeek bs s) = 0 then
    if (rS bs 33 s).1 < 0 then (HeapT.zero, (rS bs 33 s).2.refuse 60 s.at_)
    else ((rS bs 33 s).2.told HeapT.zero ⟨13, (rS bs 33 s).1⟩, (rS bs 33 s).2)
  else (⟨givenK (rPeek bs s), 0⟩, s.next)

def rVal (bs : List UInt8) (s : RdS) : ValT × RdS :=
  if (rByte bs s).1 = 127 then (⟨1, false, ⟨0, 0⟩⟩, (rByte bs s).2)
  else if (rByte bs s).1 = 126 then (⟨2, false, ⟨0, 0⟩⟩, (rByte bs s).2)
  else if (rByte bs s).1 = 100 ∨ (rByte bs s).1 = 99 then
    ((rHeap bs (rByte bs s).2).2.told ValT.zero ⟨3, (rByte bs s).1 == 99, (rHeap bs (rByte bs s).2).1⟩, (rHeap bs (rByte bs s).2).2)
  else if (rByte bs s).1 = 125 ∨ (rByte bs s).1 = 124 ∨ (rByte bs s).1 = 123 then (ValT.zero, (rByte bs s).2.refuse 61 s.at_)
  else if givenK (rByte bs s).1 = 0 then (ValT.zero, (rByte bs s).2.form s.at_)
  else (⟨3, true, ⟨givenK (rByte bs s).1, 0⟩⟩, (rByte bs s).2)

/-- So many of what f reads, till an error is met. -/
def rMany {α : Type} (f : RdS → α × RdS) : Nat → RdS → List α × RdS
  | 0, s => ([], s)
  | n + 1, s => if s.err = 0 then ((f s).1 :: (rMany f n (f s).2).1, (rMany f n (f s).2).2) else ([], s)
def rList {α : Type} (bs : List UInt8) (f : RdS → α × RdS) (s : RdS) : List α × RdS :=
  ((rMany f (rCount bs s).1 (rCount bs s).2).2.told [] (rMany f (rCount bs s).1 (rCount bs s).2).1, (rMany f (rCount bs s).1 (rCount bs s).2).2)

def rVals (bs : List UInt8) (s : RdS) : List ValT × RdS := rList bs (rVal bs) s
def rSuper (bs : List UInt8) (s : RdS) : HeapT × RdS := (⟨13, (rU bs 32 s).1⟩, (rU bs 32 s).2)

/-- What stands in a field, ahead of whether it may change. -/
def rStore (bs : List UInt8) (s : RdS) : (Int × ValT) × RdS :=
  if rPeek bs s = 120 then ((8, ⟨1, false, ⟨0, 0⟩⟩), s.next)
  else if rPeek bs s = 119 then ((16, ⟨1, false, ⟨0, 0⟩⟩), s.next)
  else ((0, (rVal bs s).1), (rVal bs s).2)
/-- A byte that is 0 or 1. -/
def rBit (bs : List UInt8) (s : RdS) : Bool × RdS :=
  ((rByte bs s).1 == 1, if 1 < (rByte bs s).1 then (rByte bs s).2.form s.at_ else (rByte bs s).2)
def rField (bs : List UInt8) (s : RdS) : FieldT × RdS :=
  (⟨(rStore bs s).1.1, (rStore bs s).1.2, (rBit bs (rStore bs s).2).1⟩, (rBit bs (rStore bs s).2).2)
def rComp (bs : List UInt8) (s : RdS) : CompT × RdS :=
  if (rByte bs s).1 = 96 then
    (⟨1, (rVals bs (rByte bs s).2).1, (rVals bs (rVals bs (rByte bs s).2).2).1, []⟩, (rVals bs (rVals bs (rByte bs s).2).2).2)
  else if (rByte bs s).1 = 95 then (⟨2, [], [], (rList bs (rField bs) (rByte bs s).2).1⟩, (rList bs (rField bs) (rByte bs s).2).2)
  else if (rByte bs s).1 = 94 then (⟨3, [], [], [(rField bs (rByte bs s).2).1]⟩, (rField bs (rByte bs s).2).2)
  else (CompT.zero, (rByte bs s).2.form s.at_)
/-- Whether a type is final, and its supers. -/
def rHead (bs : List UInt8) (s : RdS) : (Bool × List HeapT) × RdS :=
  if rPeek bs s = 80 ∨ rPeek bs s = 79 then ((rPeek bs s == 79, (rList bs (rSuper bs) s.next).1), (rList bs (rSuper bs) s.next).2)
  else ((true, []), s)
def rSub (bs : List UInt8) (s : RdS) : SubT × RdS :=
  ((rComp bs (rHead bs s).2).2.told SubT.zero ⟨(rHead bs s).1.1, (rHead bs s).1.2, (rComp bs (rHead bs s).2).1⟩, (rComp bs (rHead bs s).2).2)
def rRec (bs : List UInt8) (s : RdS) : List SubT × RdS :=
  if rPeek bs s = 78 then rList bs (rSub bs) s.next else ((rSub bs s).2.told [] [(rSub bs s).1], (rSub bs s).2)

def rOpen : RdS := ⟨0, 0, 0⟩

/- What is plain. -/
def indexedH (h : HeapT) : Bool := decide (h.kind = 13 ∧ 0 ≤ h.n ∧ h.n ≤ 4294967295)
def givenH (h : HeapT) : Bool := decide (1 ≤ h.kind ∧ h.kind ≤ 12 ∧ h.n = 0)
def plainVal (v : ValT) : Bool :=
  if v.kind = 1 ∨ v.kind = 2 then decide (v = ⟨v.kind, false, ⟨0, 0⟩⟩)
  else if v.kind = 3 then givenH v.heap || indexedH v.heap
  else false
def plainField (f : FieldT) : Bool :=
  if f.pack = 0 then plainVal f.val
  else if f.pack = 8 ∨ f.pack = 16 then decide (f.val = ⟨1, false, ⟨0, 0⟩⟩)
  else false
def plainSub (s : SubT) : Bool :=
  s.supers.all indexedH && (s.comp.params.all plainVal && s.comp.results.all plainVal && s.comp.fields.all plainField) &&
  (if s.comp.kind = 1 then s.comp.fields.length == 0
   else if s.comp.kind = 2 then s.comp.params.length + s.comp.results.length == 0
   else if s.comp.kind = 3 then s.comp.params.length + s.comp.results.length == 0 && s.comp.fields.length == 1
   else false)

/- What is put. -/
def heapByte (k : Int) : List UInt8 := ((List.range 12).filter fun i => heapsL.getD i 0 == k).map fun i => UInt8.ofNat (105 + i)
def pHeap (h : HeapT) : List UInt8 := if h.kind = 13 then putS h.n else heapByte h.kind
def pVal (v : ValT) : List UInt8 :=
  if v.kind = 1 then [127] else if v.kind = 2 then [126]
  else if v.null = false then 100 :: pHeap v.heap
  else if v.heap.kind = 13 then 99 :: pHeap v.heap
  else pHeap v.heap
def pList {α : Type} (f : α → List UInt8) (l : List α) : List UInt8 := putU l.length ++ l.flatMap f
def pSuper (h : HeapT) : List UInt8 := putU h.n.toNat
def pField (f : FieldT) : List UInt8 :=
  (if f.pack = 8 then [120] else if f.pack = 16 then [119] else pVal f.val) ++ [if f.mut_ then 1 else 0]
def pSub (s : SubT) : List UInt8 :=
  (if s.final_ = false then 80 :: pList pSuper s.supers else if 0 < s.supers.length then 79 :: pList pSuper s.supers else []) ++
  (if s.comp.kind = 1 then 96 :: (pList pVal s.comp.params ++ pList pVal s.comp.results)
   else if s.comp.kind = 2 then 95 :: pList pField s.comp.fields
   else 94 :: s.comp.fields.head?.elim [] pField)
def pRec (l : List SubT) : List UInt8 :=
  if l.all plainSub then
    (match l with
     | [] => []
     | [s] => pSub s
     | l => 78 :: pList pSub l)
  else []

end Go.Proofs.YtokneepfknepaaaDoor
