/- Plain law and steps: the bytes of values; a slice of bytes that a call appends to. Conditions: what the laws name. -/
import Derived.Test.YtnmojmmgkipjcaaGreatDoorCopyl
namespace Go.Proofs.YtnmojmmgkipjcaaGreatDoor
open Go.RowKit
/-- v owns the bytes l. -/
def Byts (w : World) (v : Value) (l : List UInt8) : Prop := Row w 5 1 v l.length (l.map fun c => .int .u8 (c.toNat : Int))
theorem bytTy : SlTy Tryz.prog 149 5 (.int .u8 0) 1 1 := ⟨by kernel_rfl, by kernel_rfl, by kernel_rfl, by decide⟩
theorem byts_nil (w : World) : Byts w (.slice none 0 0) [] := row_nil _ _ _
theorem byts_kept {w w' : World} {v : Value} {l : List UInt8} (h : Byts w v l) (hb : Below w.heap.size w w') : Byts w' v l := Row.below h hb
/-- one byte more -/
theorem wpList_byte {ops : Array Oper} {rest : List Oper} {o : Oper} {a : Act} {w : World} {Q : Exit → Act → World → Prop} (hgd : o.guard = none) (s x : Operand)
    (ho : o.op = .call { callee := .builtin .append, args := #[s, x], argTypes := #[149, 149] })
    (v : Value) (l : List UInt8) (hs : a.eval s = v) (hown : Byts w v l) (g : Nat) (n : Int) (c : UInt8)
    (hx : a.eval x = .slice (some ⟨g, 0, none⟩) 1 1) (hnew : w.cell? ⟨g, 0, none⟩ = some (.int .u8 n)) (hc : n = (c.toNat : Int)) (hlen : l.length < 70368744177664)
    (h : ∀ v' w', Byts w' v' (l ++ [c]) → Upd w w' v.ownBlock v'.ownBlock → wpList Tryz.prog ops Q rest (a.put o.dst v') w') : wpList Tryz.prog ops Q (o :: rest) a w := by
  subst hc
  refine wpList_app bytTy hgd s x ho v l.length _ hs hown ⟨g, 0, none⟩ 1 1 [.int .u8 (c.toNat : Int)] hx rfl ?_ (by simp [Value.oneCell']) (by unfold maxLen; omega) (by omega) ?_
  · intro j u hj
    match j, hj with
    | 0, hj => simp at hj; subst hj; simpa [Addr.add] using hnew
  · intro v' w' h2 h3
    refine h v' w' ?_ h3
    unfold Byts
    simpa using h2
/-- two bytes more -/
theorem wpList_bytes2 {ops : Array Oper} {rest : List Oper} {o : Oper} {a : Act} {w : World} {Q : Exit → Act → World → Prop} (hgd : o.guard = none) (s x : Operand)
    (ho : o.op = .call { callee := .builtin .append, args := #[s, x], argTypes := #[149, 149] })
    (v : Value) (l : List UInt8) (hs : a.eval s = v) (hown : Byts w v l) (g : Nat) (c d : UInt8)
    (hx : a.eval x = .slice (some ⟨g, 0, none⟩) 2 2) (hnew : w.cell? ⟨g, 0, none⟩ = some (.int .u8 (c.toNat : Int))) (hnew2 : w.cell? ⟨g, 1, none⟩ = some (.int .u8 (d.toNat : Int))) (hlen : l.length < 70368744177664)
    (h : ∀ v' w', Byts w' v' (l ++ [c, d]) → Upd w w' v.ownBlock v'.ownBlock → wpList Tryz.prog ops Q rest (a.put o.dst v') w') : wpList Tryz.prog ops Q (o :: rest) a w := by
  refine wpList_app bytTy hgd s x ho v l.length _ hs hown ⟨g, 0, none⟩ 2 2 [.int .u8 (c.toNat : Int), .int .u8 (d.toNat : Int)] hx rfl ?_ (by simp [Value.oneCell']) (by unfold maxLen; omega) (by omega) ?_
  · intro j u hj
    match j, hj with
    | 0, hj => simp at hj; subst hj; simpa [Addr.add] using hnew
    | 1, hj => simp at hj; subst hj; simpa [Addr.add] using hnew2
  · intro v' w' h2 h3
    refine h v' w' ?_ h3
    unfold Byts
    simpa using h2
/-- a text's bytes, with the end -/
def encT (s : List UInt8) : List UInt8 := (s.flatMap fun c => if c = 0 then [0, 255] else [c]) ++ [0, 1]
/-- byte number j of a number, the greatest first -/
def byteN (n : Int) (j : Nat) : UInt8 := UInt8.ofNat ((n + 9223372036854775808).toNat / 2 ^ (8 * (7 - j)))
def encN (n : Int) : List UInt8 := (List.range 8).map (byteN n)
mutual
/-- a value's bytes -/
def enc : JV → List UInt8
  | .mk k n s ns is =>
    if k = 0 then [5] else if k = 1 then [80] else if k = 2 then [81] else if k = 3 then 16 :: encN n else if k = 4 then 32 :: encT s.data.toList
    else if k = 6 then 48 :: (encM ns is ++ [1]) else 64 :: (encL is ++ [1])
def encL : List JV → List UInt8
  | [] => []
  | t :: r => 2 :: (enc t ++ encL r)
def encM : List ByteArray → List JV → List UInt8
  | n :: ns, t :: r => 2 :: (encT n.data.toList ++ (enc t ++ encM ns r))
  | _, _ => []
end
theorem byteN_int {n : Int} {j : Nat} : ((byteN n j).toNat : Int) = ((n + 9223372036854775808).toNat / 2 ^ (8 * (7 - j)) % 256 : Nat) := by
  unfold byteN
  rw [UInt8.toNat_ofNat']
theorem encN_snoc (n : Int) (j : Nat) : (List.range (j + 1)).map (byteN n) = (List.range j).map (byteN n) ++ [byteN n j] := by
  rw [List.range_succ, List.map_append]; rfl
end Go.Proofs.YtnmojmmgkipjcaaGreatDoor
