/- Plain law: the order of values as a function on trees. No program in sight. -/
import Derived.Test.YtjmhoccikbgigaaDoorTree
namespace Go.Proofs.YtjmhoccikbgigaaDoor
/-- of two numbers -/
def sgn (a b : Int) : Int := if a < b then -1 else if b < a then 1 else 0
/-- of two texts, byte by byte, a beginning ahead -/
def txt : List UInt8 → List UInt8 → Int
  | [], [] => 0
  | [], _ :: _ => -1
  | _ :: _, [] => 1
  | x :: a, y :: b => if x.toNat < y.toNat then -1 else if y.toNat < x.toNat then 1 else txt a b
def rankK (k : Int) : Int := if k = 0 then 0 else if k = 3 then 1 else if k = 4 then 2 else if k = 6 then 3 else if k = 5 then 4 else if k = 1 then 5 else if k = 2 then 6 else -1
/-- how many members an object, a list has -/
def JV.mem (t : JV) : Nat := if t.kind = 6 then min t.names.length t.items.length else t.items.length
mutual
/-- the order of two values -/
def ord : JV → JV → Int
  | .mk k n s ns is, .mk k' n' s' ns' is' =>
    if sgn (rankK k) (rankK k') ≠ 0 then sgn (rankK k) (rankK k')
    else if k = 3 then sgn n n'
    else if k = 4 then txt s.data.toList s'.data.toList
    else if k = 5 then ordL is is'
    else if k = 6 then ordM ns is ns' is'
    else 0
/-- of two lists -/
def ordL : List JV → List JV → Int
  | [], [] => 0
  | [], _ :: _ => -1
  | _ :: _, [] => 1
  | x :: a, y :: b => if ord x y ≠ 0 then ord x y else ordL a b
/-- of two objects' members -/
def ordM : List ByteArray → List JV → List ByteArray → List JV → Int
  | m :: ns, x :: a, m' :: ns', y :: b => if txt m.data.toList m'.data.toList ≠ 0 then txt m.data.toList m'.data.toList else if ord x y ≠ 0 then ord x y else ordM ns a ns' b
  | ns, a, ns', b => sgn (min ns.length a.length : Nat) (min ns'.length b.length : Nat)
end
end Go.Proofs.YtjmhoccikbgigaaDoor
