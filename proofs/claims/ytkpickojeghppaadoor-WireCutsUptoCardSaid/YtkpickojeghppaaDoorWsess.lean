/- The sessions in plain Lean: a server's end, a client's end. Conditions: none. -/
import Derived.Test.YtkpickojeghppaaDoorWplain
import Derived.Lib.ItoaNum
namespace Go.Proofs.YtkpickojeghppaaDoor
/-- a server's end -/
structure Sv where
  inp : List UInt8
  out : List UInt8
  closed : Bool
  why : Nat
  sums : Bool
  began : Bool
  ending : Bool
  bye : Nat
  held : List (Nat × ByteArray × Bool)
  last : Nat
def sv0 : Sv := ⟨[], [], false, 0, false, false, false, 0, [], 0⟩
def WMsg.summed (m : WMsg) (b : Bool) : WMsg := ⟨m.id, m.to, m.kind, m.body, b⟩
def Sv.send (s : Sv) (m : WMsg) : Sv := { s with out := s.out ++ packL (m.summed s.sums) }
def msgTo (to : Nat) (kind : Int) (body : ByteArray) : WMsg := ⟨0, to, kind, body, false⟩
/-- a number's digits -/
def digitsB (n : Nat) : ByteArray := ⟨(Lib.itoa (n : Int)).toArray⟩
def Sv.fail (s : Sv) (e : Nat) : Sv := { s.send (msgTo 0 6 (digitsB e)) with closed := true, why := e, held := [] }
def Sv.parts (s : Sv) : Sv := if s.ending && s.held.isEmpty && !s.closed then { s.send (msgTo s.bye 5 ⟨#[]⟩) with closed := true } else s
/-- a message is taken; the error -/
def Sv.take (s : Sv) (m : WMsg) : Sv × Nat :=
  if s.began = false then
    (if m.kind ≠ 1 then (s, 284) else ({ s with sums := m.sum, began := true }.send (msgTo m.id 2 m.body), packE ((msgTo m.id 2 m.body).summed m.sum)))
  else if m.kind = 3 then
    (if m.id ≤ s.last then (s, 284) else if 16 ≤ s.held.length then (s, 5) else ({ s with last := m.id, held := s.held ++ [(m.id, m.body, false)] }, 0))
  else if m.kind = 5 then ({ s with bye := m.id, ending := true }.parts, 0)
  else (s, 284)
def Sv.loop : Nat → Sv → Sv
  | 0, s => s
  | n + 1, s => if s.closed || s.ending then s else
    match unpack s.inp with
    | .bad e => if e = 3 then s else s.fail e
    | .ok m k => if (({ s with inp := s.inp.drop k } : Sv).take m).2 = 0 then Sv.loop n (({ s with inp := s.inp.drop k } : Sv).take m).1 else (({ s with inp := s.inp.drop k } : Sv).take m).1.fail (({ s with inp := s.inp.drop k } : Sv).take m).2
def Sv.feed (s : Sv) (p : List UInt8) : Sv := if s.closed || s.ending then s else Sv.loop ((s.inp ++ p).length + 1) { s with inp := s.inp ++ p }
/-- the first that was not told -/
def tell : List (Nat × ByteArray × Bool) → Option (Nat × ByteArray × List (Nat × ByteArray × Bool))
  | [] => none
  | (i, b, false) :: r => some (i, b, (i, b, true) :: r)
  | (i, b, true) :: r => match tell r with | none => none | some (j, c, q) => some (j, c, (i, b, true) :: q)
/-- a client's end; id: the next ask's -/
structure Cl where
  inp : List UInt8
  out : List UInt8
  closed : Bool
  why : Nat
  sums : Bool
  began : Bool
  ending : Bool
  bye : Nat
  id : Nat
  asked : List Nat
  came : List (Nat × ByteArray)
def Cl.send (s : Cl) (m : WMsg) : Cl := { s with out := s.out ++ packL (m.summed s.sums) }
def cl0 (sums : Bool) : Cl := ({ inp := [], out := [], closed := false, why := 0, sums := sums, began := false, ending := false, bye := 0, id := 2, asked := [], came := [] } : Cl).send ⟨1, 0, 1, ⟨#[100, 111, 99, 107, 101, 116]⟩, false⟩
end Go.Proofs.YtkpickojeghppaaDoor
