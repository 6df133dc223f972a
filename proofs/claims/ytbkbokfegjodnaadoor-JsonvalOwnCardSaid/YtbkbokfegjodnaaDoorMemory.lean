/- The plain reader of texts; what memory holds while a text is read. Conditions: what the laws name. -/
import Derived.Test.YtbkbokfegjodnaaDoorEqualw
import Derived.Test.YtbkbokfegjodnaaDoorBasic
import Derived.Lib.MapLaws
import Derived.Lib.TrimUEq
import Derived.Lib.ParseIntB
import Derived.StringKeys
import Derived.Maps.Own
import Derived.Maps.OwnSet
import Derived.WalkSpells
namespace Go.Proofs.YtbkbokfegjodnaaDoor
open Go.RowKit
theorem strs_mem {x : ByteArray} {l : List ByteArray} (h : x ∈ l) : x.size ≤ strsBulk l := by
  induction l with
  | nil => cases h
  | cons y r ih =>
    rcases List.mem_cons.1 h with rfl | h
    · simp only [strsBulk]; omega
    · have := ih h; simp only [strsBulk]; omega
theorem drewn1 {w : World} {a : Nat} : ∃ n, w.drewN a = w.drewN n := ⟨_, rfl⟩
theorem drewn2 {w : World} {a b : Nat} : ∃ n, (w.drewN a).drewN b = w.drewN n := ⟨_, World.drewN_drewN _ _ _⟩
theorem drewn3 {w : World} {a b c : Nat} : ∃ n, ((w.drewN a).drewN b).drewN c = w.drewN n := by rw [World.drewN_drewN, World.drewN_drewN]; exact ⟨_, rfl⟩
theorem results_cell2 {P : Program} {fn : Func} {p t u : Tmp} {ty : TypeId} (h : fn.results = #[.cell p ty, .tmp t, .tmp u]) (tmps : Array Value) (w : World) (g : Nat) (T : TypeId) (cs : Array Value) (fr : Nat × Nat) (d : TypeDesc)
    (hp : tmps.getD p undef = .pointer (some ⟨g, 0, none⟩)) (hg : w.heap[g]? = some (.cells cs T fr))
    (hu : P.underlying ty = some d) (hd : (match d with | .struct _ | .array _ _ => true | _ => false) = true) (hi : (P.info? ty).map (·.size) = some cs.size) :
    (results fn tmps).run P w = .ok (.tuple #[.agg cs, tmps.getD t undef, tmps.getD u undef]) w := by
  have hp' : tmps[p]?.getD undef = .pointer (some ⟨g, 0, none⟩) := by simpa using hp
  simp [results, h, hp', asAddr, run_loadVar_row w g T ty cs fr d hg hu hd hi]
theorem cellsOf5 {w : World} {B : Nat} {c0 c1 c2 c3 c4 : Value} {T : TypeId} (h : w.heap[B]? = some (.cells #[c0, c1, c2, c3, c4] T (0, 0))) :
    (w.cell? ⟨B, 0, none⟩ = some c0 ∧ w.cell? ⟨B, 1, none⟩ = some c1 ∧ w.cell? ⟨B, 2, none⟩ = some c2 ∧ w.cell? ⟨B, 3, none⟩ = some c3 ∧ w.cell? ⟨B, 4, none⟩ = some c4) ∧
    (w.frozen? ⟨B, 0, none⟩ = false ∧ w.frozen? ⟨B, 1, none⟩ = false ∧ w.frozen? ⟨B, 2, none⟩ = false ∧ w.frozen? ⟨B, 3, none⟩ = false ∧ w.frozen? ⟨B, 4, none⟩ = false) :=
  ⟨⟨cell_of_row _ _ _ _ _ _ h, cell_of_row _ _ _ _ _ _ h, cell_of_row _ _ _ _ _ _ h, cell_of_row _ _ _ _ _ _ h, cell_of_row _ _ _ _ _ _ h⟩, ⟨frozen_of_row _ _ _ _ _ h, frozen_of_row _ _ _ _ _ h, frozen_of_row _ _ _ _ _ h, frozen_of_row _ _ _ _ _ h, frozen_of_row _ _ _ _ _ h⟩⟩
structure St where
  pos : Nat
  err : Nat
  place : Nat
def St.fail (s : St) (e p : Nat) : St := if s.err = 0 then ⟨s.pos, e, p⟩ else s
theorem Upd.trans_below {a b c : World} {R : Nat} (h : Upd a b (some R) (some R)) (k : Below a.heap.size b c) : Upd a c (some R) (some R) :=
  ⟨⟨k.os.trans h.grown.os, k.tape.trans h.grown.tape, k.output.trans h.grown.output, Nat.le_trans h.grown.size k.size, fun i hi hne => (k.block i hi).trans (h.grown.block i hi hne)⟩, .inl rfl⟩
theorem Upd.heap {w w' : World} {r r' : Option Nat} (h : Upd w w' r r') {w2 : World} (hw : w2.heap = w'.heap) (ho : w2.os = w'.os) (ht : w2.tape = w'.tape) (hu : w2.output = w'.output) : Upd w w2 r r' :=
  ⟨⟨ho.trans h.grown.os, ht.trans h.grown.tape, hu.trans h.grown.output, by rw [hw]; exact h.grown.size, fun k hk hne => by rw [hw]; exact h.grown.block k hk hne⟩, h.own⟩
theorem byte_ne {c d : UInt8} (h : c ≠ d) : ((c.toNat : Int) == (d.toNat : Int)) = false := by
  rw [beq_eq_false_iff_ne]; intro e; exact h (UInt8.toNat_inj.1 (by omega))
theorem drop_cons2 {l : List UInt8} {j : Nat} (h : j < l.length) : l.drop j = l[j] :: l.drop (j + 1) := List.drop_eq_getElem_cons h
theorem drop_at {bs : List UInt8} {p : Nat} (h : p ≤ bs.length) : bs.length - (bs.drop p).length = p := by rw [List.length_drop]; omega
theorem rep_flat (k n : Int) (s : ByteArray) (hk : -9223372036854775808 ≤ k ∧ k ≤ 9223372036854775807) (hn : -9223372036854775808 ≤ n ∧ n ≤ 9223372036854775807) (hs : s.size ≤ maxLen) (w : World) (ok : Nat → Prop) :
    Rep w ok (.mk k n s [] []) [.int .i64 k, .int .i64 n, .string s, .slice none 0 0, .slice none 0 0] :=
  rep_mk.2 ⟨hk, hn, hs, none, 0, none, 0, rfl, ⟨Nat.le_refl _, Nat.zero_le _⟩, ⟨Nat.le_refl _, Nat.zero_le _⟩, .inl rfl, .inl rfl⟩
theorem set5d {w : World} {B : Nat} {T : TypeId} {u0 u1 u2 u3 u4 c0 c1 c2 c3 c4 : Value} (h : w.heap[B]? = some (.cells #[u0, u1, u2, u3, u4] T (0, 0))) :
    (((((w.setCell ⟨B, 0, none⟩ c0).setCell ⟨B, 1, none⟩ c1).setCell ⟨B, 2, none⟩ c2).setCell ⟨B, 3, none⟩ c3).setCell ⟨B, 4, none⟩ c4).drew.heap[B]? = some (.cells #[c0, c1, c2, c3, c4] T (0, 0)) := by
  rw [show ∀ W : World, W.drew.heap = W.heap from fun _ => rfl]
  exact set5 h
theorem take_snoc (s : ByteArray) (k : Nat) (h : k < s.size) : s.data.toList.take (k + 1) = s.data.toList.take k ++ [s[k]] := by
  rw [List.take_succ_eq_append_getElem (by simpa using h)]
  rfl
theorem bulks_take : ∀ (l : List JV) (j : Nat) (h : j < l.length), JV.bulks (l.take j) + l[j].bulk ≤ JV.bulks l
  | t :: r, 0, _ => by simp [JV.bulks]
  | t :: r, j + 1, h => by
    have := bulks_take r j (by simpa using h)
    simp only [List.take_succ_cons, JV.bulks, List.getElem_cons_succ]
    omega
theorem strs_take : ∀ (l : List ByteArray) (j : Nat) (h : j < l.length), strsBulk (l.take j) + l[j].size + 1 ≤ strsBulk l
  | t :: r, 0, _ => by simp [strsBulk]
  | t :: r, j + 1, h => by
    have := strs_take r j (by simpa using h)
    simp only [List.take_succ_cons, strsBulk, List.getElem_cons_succ]
    omega
theorem own_upd {w w' : World} {r r' : Option Nat} (hu : Upd w w' r r') : ∀ b, b < w.heap.size → r ≠ some b → r' ≠ some b ∧ w'.heap[b]? = w.heap[b]? := fun b hlt hb => by
  refine ⟨fun e => ?_, hu.block hlt hb⟩
  rcases hu.own with e2 | ⟨g, e2, hg⟩
  · exact hb (by rw [← e2]; exact e)
  · rw [e2] at e; have := Option.some.inj e; omega
end Go.Proofs.YtbkbokfegjodnaaDoor
namespace Go.Proofs.YtbkbokfegjodnaaDoor
/-- what reading comes to: what was read, and what is left; or an error and its place -/
inductive JR (α : Type) where
  | ok (a : α) (r : List UInt8)
  | bad (e p : Nat)
/-- is a byte a blank? -/
def isBl (c : UInt8) : Bool := c == 32 || c == 9 || c == 10 || c == 13
def jbl : List UInt8 → List UInt8
  | [] => []
  | c :: r => if isBl c then jbl r else c :: r
/-- is a byte a digit? -/
def isDg (c : UInt8) : Bool := decide (48 ≤ c.toNat) && decide (c.toNat ≤ 57)
/-- a word that is known -/
def jword (N : Nat) : List UInt8 → List UInt8 → JR Unit
  | [], r => .ok () r
  | _ :: _, [] => .bad 3 N
  | c :: w, d :: r => if d = c then jword N w r else .bad 10 (N - (r.length + 1))
/-- what a hexadecimal digit says -/
def jhex (c : UInt8) : Option Nat :=
  if 48 ≤ c.toNat ∧ c.toNat ≤ 57 then some (c.toNat - 48)
  else if 97 ≤ c.toNat ∧ c.toNat ≤ 102 then some (c.toNat - 87)
  else if 65 ≤ c.toNat ∧ c.toNat ≤ 70 then some (c.toNat - 55)
  else none
/-- m hexadecimal digits -/
def jfour (N : Nat) : Nat → Nat → List UInt8 → JR Nat
  | 0, n, r => .ok n r
  | _ + 1, _, [] => .bad 3 N
  | m + 1, n, c :: r => match jhex c with | some d => jfour N m (16 * n + d) r | none => .bad 12 (N - (r.length + 1))
/-- the bytes of a character -/
def utfL (c : Nat) : List UInt8 :=
  if c < 128 then [UInt8.ofNat c]
  else if c < 2048 then [UInt8.ofNat (192 + c / 64), UInt8.ofNat (128 + c % 64)]
  else if c < 65536 then [UInt8.ofNat (224 + c / 4096), UInt8.ofNat (128 + c / 64 % 64), UInt8.ofNat (128 + c % 64)]
  else [UInt8.ofNat (240 + c / 262144), UInt8.ofNat (128 + c / 4096 % 64), UInt8.ofNat (128 + c / 64 % 64), UInt8.ofNat (128 + c % 64)]
/-- bytes that must stand here, of an escape that began at a place -/
def jlit (N f : Nat) : List UInt8 → List UInt8 → JR Unit
  | [], r => .ok () r
  | _ :: _, [] => .bad 3 N
  | c :: w, d :: r => if d = c then jlit N f w r else .bad 13 f
/-- the second half's digits, with the first half -/
def jlow (f n : Nat) : JR Nat → JR Nat
  | .bad e p => .bad e p
  | .ok m r => if m < 56320 ∨ 57343 < m then .bad 13 f else .ok (65536 + (n - 55296) * 1024 + (m - 56320)) r
/-- the second half, behind its mark -/
def jsec (N f n : Nat) : JR Unit → JR Nat
  | .bad e p => .bad e p
  | .ok _ r => jlow f n (jfour N 4 0 r)
/-- a character behind its four digits -/
def jchr (N f : Nat) : JR Nat → JR Nat
  | .bad e p => .bad e p
  | .ok n r => if n < 55296 ∨ 57343 < n then .ok n r else if 56320 ≤ n then .bad 13 f else jsec N f n (jlit N f [92, 117] r)
/-- what stands behind the escape of a number -/
def juni (N f : Nat) (r : List UInt8) : JR Nat := jchr N f (jfour N 4 0 r)
/-- its bytes -/
def jutf : JR Nat → JR (List UInt8)
  | .bad e p => .bad e p
  | .ok n r => .ok (utfL n) r
/-- what stands behind \ -/
def jesc (N : Nat) : List UInt8 → JR (List UInt8)
  | [] => .bad 3 N
  | c :: r =>
    if c = 34 then .ok [34] r else if c = 92 then .ok [92] r else if c = 47 then .ok [47] r
    else if c = 98 then .ok [8] r else if c = 102 then .ok [12] r else if c = 110 then .ok [10] r else if c = 114 then .ok [13] r else if c = 116 then .ok [9] r
    else if c = 117 then jutf (juni N (N - (r.length + 2)) r)
    else .bad 12 (N - (r.length + 1))
/-- a text behind its first mark -/
def jtext (N : Nat) : Nat → List UInt8 → List UInt8 → JR (List UInt8)
  | 0, _, _ => .bad 0 0
  | _ + 1, [], _ => .bad 3 N
  | f + 1, c :: r, acc =>
    if c = 34 then .ok acc r
    else if c = 92 then (match jesc N r with | .bad e p => .bad e p | .ok x r2 => jtext N f r2 (acc ++ x))
    else if c.toNat < 32 then .bad 11 (N - (r.length + 1))
    else if chrD (c :: r) = 0 then .bad 13 (N - (r.length + 1))
    else if chrD (c :: r) < 0 then .bad 3 N
    else jtext N f ((c :: r).drop (chrD (c :: r)).toNat) (acc ++ (c :: r).take (chrD (c :: r)).toNat)
/-- digits, and what stands behind -/
def jdg : List UInt8 → List UInt8 × List UInt8
  | [] => ([], [])
  | c :: r => if isDg c then (c :: (jdg r).1, (jdg r).2) else ([], c :: r)
/-- what digits say -/
def decL (l : List UInt8) : Nat := l.foldl (fun n c => 10 * n + (c.toNat - 48)) 0
/-- the digits of a number -/
def jds : List UInt8 → List UInt8 × List UInt8
  | [] => ([], [])
  | c :: r => if c = 48 then ([48], r) else (c :: (jdg r).1, (jdg r).2)
/-- what follows a number's digits -/
def jnumEnd (N f : Nat) (m : Bool) (v : Nat) (r : List UInt8) : JR Int :=
  if (m = true ∧ 9223372036854775808 < v) ∨ (m = false ∧ 9223372036854775808 ≤ v) then .bad 15 f
  else match r with
    | [] => .ok (if m then -(v : Int) else v) []
    | c :: r2 => if c = 46 ∨ c = 101 ∨ c = 69 then .bad 14 (N - (r2.length + 1)) else .ok (if m then -(v : Int) else v) (c :: r2)
/-- a number behind its sign -/
def jnumA (N f : Nat) (m : Bool) : List UInt8 → JR Int
  | [] => .bad 3 N
  | c :: r => if isDg c then jnumEnd N f m (decL (jds (c :: r)).1) (jds (c :: r)).2 else .bad 10 (N - (r.length + 1))
/-- a number -/
def jnum (N : Nat) : List UInt8 → JR Int
  | [] => .bad 3 N
  | c :: r => if c = 45 then jnumA N (N - (r.length + 1)) true r else jnumA N (N - (r.length + 1)) false (c :: r)
def jnil (k : Int) : JV := .mk k 0 ⟨#[]⟩ [] []
/-- a member's name and its colon, and the value's beginning -/
def jname (N : Nat) (ns : List ByteArray) : List UInt8 → JR ByteArray
  | [] => .bad 3 N
  | c :: r => if c = 34 then
      (match jtext N (r.length + 1) r [] with
      | .bad e p => .bad e p
      | .ok x r2 => if hasB ns ⟨x.toArray⟩ then .bad 16 (N - (r.length + 1)) else
        match jbl r2 with
        | [] => .bad 3 N
        | c2 :: r3 => if c2 = 58 then .ok ⟨x.toArray⟩ (jbl r3) else .bad 10 (N - (r3.length + 1)))
    else .bad 10 (N - (r.length + 1))
/-- does an item follow, and where? none: it was the end -/
def jmore (N : Nat) (first : Bool) (e : UInt8) (r : List UInt8) : JR Bool :=
  match jbl r with
  | [] => .bad 3 N
  | c :: r2 => if c = e then .ok false r2 else if first then .ok true (c :: r2) else if c = 44 then .ok true (jbl r2) else .bad 10 (N - (r2.length + 1))
/-- the items of a list or an object -/
def jitems (N : Nat) (val : List UInt8 → JR JV) (o : Bool) : Nat → List UInt8 → List ByteArray → List JV → JR JV
  | 0, _, _, _ => .bad 0 0
  | f + 1, r, ns, is =>
    match jmore N is.isEmpty (if o then 125 else 93) r with
    | .bad e p => .bad e p
    | .ok false r2 => .ok (.mk (if o then 6 else 5) 0 ⟨#[]⟩ ns is) r2
    | .ok true r2 =>
      if o then
        (match jname N ns r2 with
        | .bad e p => .bad e p
        | .ok x r3 => match val r3 with
          | .bad e p => .bad e p
          | .ok v r4 => jitems N val o f r4 (ns ++ [x]) (is ++ [v]))
      else
        match val r2 with
        | .bad e p => .bad e p
        | .ok v r4 => jitems N val o f r4 ns (is ++ [v])
/-- a value whose lists are read by deep -/
def jhead (N : Nat) (deep : Bool → List UInt8 → JR JV) : List UInt8 → JR JV
  | [] => .bad 3 N
  | c :: r =>
    if c = 110 then (match jword N [110, 117, 108, 108] (c :: r) with | .bad e p => .bad e p | .ok _ q => .ok (jnil 0) q)
    else if c = 116 then (match jword N [116, 114, 117, 101] (c :: r) with | .bad e p => .bad e p | .ok _ q => .ok (jnil 2) q)
    else if c = 102 then (match jword N [102, 97, 108, 115, 101] (c :: r) with | .bad e p => .bad e p | .ok _ q => .ok (jnil 1) q)
    else if c = 45 ∨ isDg c then (match jnum N (c :: r) with | .bad e p => .bad e p | .ok n q => .ok (.mk 3 n ⟨#[]⟩ [] []) q)
    else if c = 34 then (match jtext N (r.length + 1) r [] with | .bad e p => .bad e p | .ok x q => .ok (.mk 4 0 ⟨x.toArray⟩ [] []) q)
    else if c = 91 then deep false r
    else if c = 123 then deep true r
    else .bad 10 (N - (r.length + 1))
/-- a value, k deeper at most -/
def jval (N : Nat) : Nat → List UInt8 → JR JV
  | 0, r => jhead N (fun _ r => .bad 17 (N - (r.length + 1))) r
  | k + 1, r => jhead N (fun o r => jitems N (jval N k) o (r.length + 1) r [] []) r
/-- a whole text -/
def jparse (bs : List UInt8) : JR JV :=
  if 65536 < bs.length then .bad 1 0
  else match jval bs.length 64 (jbl bs) with
    | .bad e p => .bad e p
    | .ok v r => match jbl r with | [] => .ok v [] | _ :: r2 => .bad 4 (bs.length - (r2.length + 1))
end Go.Proofs.YtbkbokfegjodnaaDoor
namespace Go.Proofs.YtbkbokfegjodnaaDoor
theorem jword_len (N : Nat) : ∀ (w r t : List UInt8) (u : Unit), jword N w r = .ok u t → t.length + w.length = r.length
  | [], r, t, u, h => by rw [jword] at h; injection h with h1 h2; rw [h2]; rfl
  | c :: w, [], t, u, h => by rw [jword] at h; cases h
  | c :: w, d :: r, t, u, h => by
    rw [jword] at h
    split at h
    · have := jword_len N w r t u h; simp only [List.length_cons]; omega
    · cases h
theorem jdg_len : ∀ r : List UInt8, (jdg r).2.length ≤ r.length
  | [] => Nat.le_refl _
  | c :: r => by
    rw [jdg]
    split
    · have := jdg_len r; simp only [List.length_cons]; omega
    · exact Nat.le_refl _
theorem jds_len (c : UInt8) (r : List UInt8) : (jds (c :: r)).2.length ≤ r.length := by
  rw [jds]
  split
  · exact Nat.le_refl _
  · exact jdg_len r
theorem jnumEnd_len {N f v : Nat} {m : Bool} {r t : List UInt8} {n : Int} (h : jnumEnd N f m v r = .ok n t) : t = r := by
  unfold jnumEnd at h
  split at h
  · cases h
  · cases r with
    | nil => simp only at h; injection h with h1 h2; exact h2.symm
    | cons c r2 =>
      simp only at h
      split at h
      · cases h
      · injection h with h1 h2; exact h2.symm
theorem jnumA_len {N f : Nat} {m : Bool} {r t : List UInt8} {n : Int} (h : jnumA N f m r = .ok n t) : t.length + 1 ≤ r.length := by
  cases r with
  | nil => rw [jnumA] at h; cases h
  | cons c r =>
    rw [jnumA] at h
    split at h
    · rw [jnumEnd_len h]; have := jds_len c r; simp only [List.length_cons]; omega
    · cases h
theorem jnum_len {N : Nat} {c : UInt8} {r t : List UInt8} {n : Int} (h : jnum N (c :: r) = .ok n t) : t.length ≤ r.length := by
  rw [jnum] at h
  split at h
  · have := jnumA_len h; omega
  · have := jnumA_len h; simp only [List.length_cons] at this; omega
/-- what follows at a list or an object, k deeper at most -/
def jdeep (N : Nat) : Nat → Bool → List UInt8 → JR JV
  | 0, _, r => .bad 17 (N - (r.length + 1))
  | k + 1, o, r => jitems N (jval N k) o (r.length + 1) r [] []
theorem jval_head (N k : Nat) : jval N k = jhead N (jdeep N k) := by
  cases k with
  | zero => rfl
  | succ k => rfl
theorem rest_adv {N p q : Nat} {l t : List UInt8} (hl : l.length = N - (p + 1)) (ht : t.length = N - q) (hp : p < N) (hq : q ≤ N) (h : t.length ≤ l.length) : p + 1 ≤ q := by omega
end Go.Proofs.YtbkbokfegjodnaaDoor
namespace Go.Proofs.YtbkbokfegjodnaaDoor
theorem dn1 {n C B D E : Nat} (h1 : 128 ≤ C) (h2 : C < 194) : Lib.decodeN n C B D E = (65533, 1) := by
  unfold Lib.decodeN
  rw [if_neg (by omega)]
  by_cases hq : C / 32 = 6 ∧ (1 < n ∧ B / 64 = 2)
  · rw [if_pos hq, if_neg (by omega)]
  · rw [if_neg hq, if_neg (by omega), if_neg (by omega)]
theorem dn5 {n C B D E : Nat} (h1 : 245 ≤ C) (h2 : C < 256) : Lib.decodeN n C B D E = (65533, 1) := by
  unfold Lib.decodeN
  rw [if_neg (by omega), if_neg (by omega), if_neg (by omega)]
  by_cases hq : C / 8 = 30 ∧ (1 < n ∧ B / 64 = 2) ∧ (2 < n ∧ D / 64 = 2) ∧ (3 < n ∧ E / 64 = 2)
  · rw [if_pos hq, if_neg (by omega)]
  · rw [if_neg hq]
theorem dn2 {n C B D E : Nat} (h1 : 194 ≤ C) (h2 : C < 224) (hB : B < 256) : (1 < n ∧ 128 ≤ B ∧ B ≤ 191 ∧ (Lib.decodeN n C B D E).2 = 2) ∨ (¬ (1 < n ∧ 128 ≤ B ∧ B ≤ 191) ∧ Lib.decodeN n C B D E = (65533, 1)) := by
  unfold Lib.decodeN
  rw [if_neg (by omega)]
  by_cases hq : C / 32 = 6 ∧ (1 < n ∧ B / 64 = 2)
  · left
    rw [if_pos hq, if_pos (by omega)]
    exact ⟨by omega, by omega, by omega, rfl⟩
  · right
    rw [if_neg hq, if_neg (by omega), if_neg (by omega)]
    exact ⟨by omega, rfl⟩
theorem dn3 {n C B D E lo hi : Nat} (h1 : 224 ≤ C) (h2 : C < 240) (hB : B < 256) (hD : D < 256) (hlo : (C = 224 ∧ lo = 160) ∨ (C ≠ 224 ∧ lo = 128)) (hhi : (C = 237 ∧ hi = 159) ∨ (C ≠ 237 ∧ hi = 191)) :
    (2 < n ∧ lo ≤ B ∧ B ≤ hi ∧ 128 ≤ D ∧ D ≤ 191 ∧ (Lib.decodeN n C B D E).2 = 3) ∨ (¬ (2 < n ∧ lo ≤ B ∧ B ≤ hi ∧ 128 ≤ D ∧ D ≤ 191) ∧ Lib.decodeN n C B D E = (65533, 1)) := by
  unfold Lib.decodeN
  rw [if_neg (by omega), if_neg (by omega)]
  by_cases hq : C / 16 = 14 ∧ (1 < n ∧ B / 64 = 2) ∧ (2 < n ∧ D / 64 = 2)
  · rw [if_pos hq]
    by_cases hv : C % 16 * 4096 + B % 64 * 64 + D % 64 ≥ 2048 ∧ (C % 16 * 4096 + B % 64 * 64 + D % 64 < 55296 ∨ (57344 ≤ C % 16 * 4096 + B % 64 * 64 + D % 64 ∧ C % 16 * 4096 + B % 64 * 64 + D % 64 ≤ 1114111))
    · left
      rw [if_pos hv]
      exact ⟨by omega, by omega, by omega, by omega, by omega, rfl⟩
    · right
      rw [if_neg hv]
      exact ⟨by omega, rfl⟩
  · right
    rw [if_neg hq, if_neg (by omega)]
    exact ⟨by omega, rfl⟩
theorem dn4 {n C B D E lo hi : Nat} (h1 : 240 ≤ C) (h2 : C < 245) (hB : B < 256) (hD : D < 256) (hE : E < 256) (hlo : (C = 240 ∧ lo = 144) ∨ (C ≠ 240 ∧ lo = 128)) (hhi : (C = 244 ∧ hi = 143) ∨ (C ≠ 244 ∧ hi = 191)) :
    (3 < n ∧ lo ≤ B ∧ B ≤ hi ∧ 128 ≤ D ∧ D ≤ 191 ∧ 128 ≤ E ∧ E ≤ 191 ∧ (Lib.decodeN n C B D E).2 = 4) ∨ (¬ (3 < n ∧ lo ≤ B ∧ B ≤ hi ∧ 128 ≤ D ∧ D ≤ 191 ∧ 128 ≤ E ∧ E ≤ 191) ∧ Lib.decodeN n C B D E = (65533, 1)) := by
  unfold Lib.decodeN
  rw [if_neg (by omega), if_neg (by omega), if_neg (by omega)]
  by_cases hq : C / 8 = 30 ∧ (1 < n ∧ B / 64 = 2) ∧ (2 < n ∧ D / 64 = 2) ∧ (3 < n ∧ E / 64 = 2)
  · rw [if_pos hq]
    by_cases hv : C % 8 * 262144 + B % 64 * 4096 + D % 64 * 64 + E % 64 ≥ 65536 ∧ (C % 8 * 262144 + B % 64 * 4096 + D % 64 * 64 + E % 64 < 55296 ∨ (57344 ≤ C % 8 * 262144 + B % 64 * 4096 + D % 64 * 64 + E % 64 ∧ C % 8 * 262144 + B % 64 * 4096 + D % 64 * 64 + E % 64 ≤ 1114111))
    · left
      rw [if_pos hv]
      exact ⟨by omega, by omega, by omega, by omega, by omega, by omega, by omega, rfl⟩
    · right
      rw [if_neg hv]
      exact ⟨by omega, rfl⟩
  · right
    rw [if_neg hq]
    exact ⟨by omega, rfl⟩
theorem getD_lt (l : List UInt8) (i : Nat) : (l.getD i 0).toNat < 256 := (l.getD i 0).toNat_lt
/-- the bytes behind a lead, told by place -/
theorem tl2 (n : Int) (lo hi : Nat) (t : List UInt8) (_ : 0 < n) : (0 < t.length ∧ lo ≤ (t.getD 0 0).toNat ∧ (t.getD 0 0).toNat ≤ hi ∧ tails 1 n lo hi t = n) ∨ (¬ (0 < t.length ∧ lo ≤ (t.getD 0 0).toNat ∧ (t.getD 0 0).toNat ≤ hi) ∧ tails 1 n lo hi t ≤ 0) := by
  match t with
  | [] => right; exact ⟨by simp, by simp [tails]⟩
  | b :: r =>
    by_cases h : b.toNat < lo ∨ hi < b.toNat
    · right; exact ⟨by simp; omega, by simp only [tails]; rw [if_pos h]; omega⟩
    · left; exact ⟨by simp, by simp; omega, by simp; omega, by simp only [tails]; rw [if_neg h]⟩
theorem tl3 (n : Int) (lo hi : Nat) (t : List UInt8) (hn : 0 < n) : (1 < t.length ∧ lo ≤ (t.getD 0 0).toNat ∧ (t.getD 0 0).toNat ≤ hi ∧ 128 ≤ (t.getD 1 0).toNat ∧ (t.getD 1 0).toNat ≤ 191 ∧ tails 2 n lo hi t = n) ∨
    (¬ (1 < t.length ∧ lo ≤ (t.getD 0 0).toNat ∧ (t.getD 0 0).toNat ≤ hi ∧ 128 ≤ (t.getD 1 0).toNat ∧ (t.getD 1 0).toNat ≤ 191) ∧ tails 2 n lo hi t ≤ 0) := by
  match t with
  | [] => right; exact ⟨by simp, by simp [tails]⟩
  | b :: r =>
    have h2 := tl2 n 128 191 r hn
    simp only [List.length_cons, List.getD_cons_zero, List.getD_cons_succ]
    by_cases h : b.toNat < lo ∨ hi < b.toNat
    · right; exact ⟨by omega, by rw [tails, if_pos h]; omega⟩
    · rw [tails, if_neg h]
      rcases h2 with ⟨a, b1, c, d⟩ | ⟨a, d⟩
      · left; exact ⟨by omega, by omega, by omega, b1, c, d⟩
      · right; exact ⟨by omega, d⟩
theorem tl4 (n : Int) (lo hi : Nat) (t : List UInt8) (hn : 0 < n) : (2 < t.length ∧ lo ≤ (t.getD 0 0).toNat ∧ (t.getD 0 0).toNat ≤ hi ∧ 128 ≤ (t.getD 1 0).toNat ∧ (t.getD 1 0).toNat ≤ 191 ∧ 128 ≤ (t.getD 2 0).toNat ∧ (t.getD 2 0).toNat ≤ 191 ∧ tails 3 n lo hi t = n) ∨
    (¬ (2 < t.length ∧ lo ≤ (t.getD 0 0).toNat ∧ (t.getD 0 0).toNat ≤ hi ∧ 128 ≤ (t.getD 1 0).toNat ∧ (t.getD 1 0).toNat ≤ 191 ∧ 128 ≤ (t.getD 2 0).toNat ∧ (t.getD 2 0).toNat ≤ 191) ∧ tails 3 n lo hi t ≤ 0) := by
  match t with
  | [] => right; exact ⟨by simp, by simp [tails]⟩
  | b :: r =>
    have h3 := tl3 n 128 191 r hn
    simp only [List.length_cons, List.getD_cons_zero, List.getD_cons_succ]
    by_cases h : b.toNat < lo ∨ hi < b.toNat
    · right; exact ⟨by omega, by rw [tails, if_pos h]; omega⟩
    · rw [tails, if_neg h]
      rcases h3 with ⟨a, b1, c, d, e, f⟩ | ⟨a, d⟩
      · left; exact ⟨by omega, by omega, by omega, b1, c, d, e, f⟩
      · right; exact ⟨by omega, d⟩
/-- what decoding says of the character at a text's beginning -/
theorem chr_decode (c : UInt8) (t : List UInt8) (h0 : 128 ≤ c.toNat) : (chrD (c :: t) ≤ 0 ∧ Lib.decodeL (c :: t) = (65533, 1)) ∨ (1 < chrD (c :: t) ∧ ((Lib.decodeL (c :: t)).2 : Int) = chrD (c :: t)) := by
  rw [Lib.decodeL_N]
  have hc := c.toNat_lt
  have b0 := getD_lt t 0
  have b1 := getD_lt t 1
  have b2 := getD_lt t 2
  simp only [List.length_cons, List.getD_cons_zero, List.getD_cons_succ]
  rw [chrD, if_neg (by omega)]
  rcases (show c.toNat < 194 ∨ (194 ≤ c.toNat ∧ c.toNat < 224) ∨ c.toNat = 224 ∨ c.toNat = 237 ∨ ((225 ≤ c.toNat ∧ c.toNat < 237) ∨ (238 ≤ c.toNat ∧ c.toNat < 240)) ∨ c.toNat = 240 ∨ (241 ≤ c.toNat ∧ c.toNat < 244) ∨ c.toNat = 244 ∨ 245 ≤ c.toNat by omega) with h | h | h | h | h | h | h | h | h
  · left; rw [if_pos h]; exact ⟨by omega, dn1 h0 h⟩
  · rw [if_neg (by omega), if_pos h.2]
    rcases tl2 2 128 191 t (by omega) with ⟨x1, x2, x3, x4⟩ | ⟨x1, x4⟩
    · rcases dn2 (n := t.length + 1) (D := (t.getD 1 0).toNat) (E := (t.getD 2 0).toNat) h.1 h.2 b0 with ⟨y1, y2, y3, y4⟩ | ⟨y1, y4⟩
      · right; rw [x4, y4]; exact ⟨by omega, rfl⟩
      · exfalso; omega
    · rcases dn2 (n := t.length + 1) (D := (t.getD 1 0).toNat) (E := (t.getD 2 0).toNat) h.1 h.2 b0 with ⟨y1, y2, y3, y4⟩ | ⟨y1, y4⟩
      · exfalso; omega
      · left; exact ⟨x4, y4⟩
  · rw [if_neg (by omega), if_neg (by omega), if_pos (by omega)]
    rcases tl3 3 160 191 t (by omega) with ⟨x1, x2, x3, x5, x6, x4⟩ | ⟨x1, x4⟩
    · rcases dn3 (C := c.toNat) (n := t.length + 1) (E := (t.getD 2 0).toNat) (lo := 160) (hi := 191) (by omega) (by omega) b0 b1 (by omega) (by omega) with ⟨y1, y2, y3, y5, y6, y4⟩ | ⟨y1, y4⟩
      · right; rw [x4, y4]; exact ⟨by omega, rfl⟩
      · exfalso; omega
    · rcases dn3 (C := c.toNat) (n := t.length + 1) (E := (t.getD 2 0).toNat) (lo := 160) (hi := 191) (by omega) (by omega) b0 b1 (by omega) (by omega) with ⟨y1, y2, y3, y5, y6, y4⟩ | ⟨y1, y4⟩
      · exfalso; omega
      · left; exact ⟨x4, y4⟩
  · rw [if_neg (by omega), if_neg (by omega), if_neg (by omega), if_pos (by omega)]
    rcases tl3 3 128 159 t (by omega) with ⟨x1, x2, x3, x5, x6, x4⟩ | ⟨x1, x4⟩
    · rcases dn3 (C := c.toNat) (n := t.length + 1) (E := (t.getD 2 0).toNat) (lo := 128) (hi := 159) (by omega) (by omega) b0 b1 (by omega) (by omega) with ⟨y1, y2, y3, y5, y6, y4⟩ | ⟨y1, y4⟩
      · right; rw [x4, y4]; exact ⟨by omega, rfl⟩
      · exfalso; omega
    · rcases dn3 (C := c.toNat) (n := t.length + 1) (E := (t.getD 2 0).toNat) (lo := 128) (hi := 159) (by omega) (by omega) b0 b1 (by omega) (by omega) with ⟨y1, y2, y3, y5, y6, y4⟩ | ⟨y1, y4⟩
      · exfalso; omega
      · left; exact ⟨x4, y4⟩
  · rw [if_neg (by omega), if_neg (by omega), if_neg (by omega), if_neg (by omega), if_pos (by omega)]
    rcases tl3 3 128 191 t (by omega) with ⟨x1, x2, x3, x5, x6, x4⟩ | ⟨x1, x4⟩
    · rcases dn3 (C := c.toNat) (n := t.length + 1) (E := (t.getD 2 0).toNat) (lo := 128) (hi := 191) (by omega) (by omega) b0 b1 (by omega) (by omega) with ⟨y1, y2, y3, y5, y6, y4⟩ | ⟨y1, y4⟩
      · right; rw [x4, y4]; exact ⟨by omega, rfl⟩
      · exfalso; omega
    · rcases dn3 (C := c.toNat) (n := t.length + 1) (E := (t.getD 2 0).toNat) (lo := 128) (hi := 191) (by omega) (by omega) b0 b1 (by omega) (by omega) with ⟨y1, y2, y3, y5, y6, y4⟩ | ⟨y1, y4⟩
      · exfalso; omega
      · left; exact ⟨x4, y4⟩
  · rw [if_neg (by omega), if_neg (by omega), if_neg (by omega), if_neg (by omega), if_neg (by omega), if_pos (by omega)]
    rcases tl4 4 144 191 t (by omega) with ⟨x1, x2, x3, x5, x6, x7, x8, x4⟩ | ⟨x1, x4⟩
    · rcases dn4 (C := c.toNat) (n := t.length + 1) (lo := 144) (hi := 191) (by omega) (by omega) b0 b1 b2 (by omega) (by omega) with ⟨y1, y2, y3, y5, y6, y7, y8, y4⟩ | ⟨y1, y4⟩
      · right; rw [x4, y4]; exact ⟨by omega, rfl⟩
      · exfalso; omega
    · rcases dn4 (C := c.toNat) (n := t.length + 1) (lo := 144) (hi := 191) (by omega) (by omega) b0 b1 b2 (by omega) (by omega) with ⟨y1, y2, y3, y5, y6, y7, y8, y4⟩ | ⟨y1, y4⟩
      · exfalso; omega
      · left; exact ⟨x4, y4⟩
  · rw [if_neg (by omega), if_neg (by omega), if_neg (by omega), if_neg (by omega), if_neg (by omega), if_neg (by omega), if_pos (by omega)]
    rcases tl4 4 128 191 t (by omega) with ⟨x1, x2, x3, x5, x6, x7, x8, x4⟩ | ⟨x1, x4⟩
    · rcases dn4 (C := c.toNat) (n := t.length + 1) (lo := 128) (hi := 191) (by omega) (by omega) b0 b1 b2 (by omega) (by omega) with ⟨y1, y2, y3, y5, y6, y7, y8, y4⟩ | ⟨y1, y4⟩
      · right; rw [x4, y4]; exact ⟨by omega, rfl⟩
      · exfalso; omega
    · rcases dn4 (C := c.toNat) (n := t.length + 1) (lo := 128) (hi := 191) (by omega) (by omega) b0 b1 b2 (by omega) (by omega) with ⟨y1, y2, y3, y5, y6, y7, y8, y4⟩ | ⟨y1, y4⟩
      · exfalso; omega
      · left; exact ⟨x4, y4⟩
  · rw [if_neg (by omega), if_neg (by omega), if_neg (by omega), if_neg (by omega), if_neg (by omega), if_neg (by omega), if_neg (by omega), if_pos (by omega)]
    rcases tl4 4 128 143 t (by omega) with ⟨x1, x2, x3, x5, x6, x7, x8, x4⟩ | ⟨x1, x4⟩
    · rcases dn4 (C := c.toNat) (n := t.length + 1) (lo := 128) (hi := 143) (by omega) (by omega) b0 b1 b2 (by omega) (by omega) with ⟨y1, y2, y3, y5, y6, y7, y8, y4⟩ | ⟨y1, y4⟩
      · right; rw [x4, y4]; exact ⟨by omega, rfl⟩
      · exfalso; omega
    · rcases dn4 (C := c.toNat) (n := t.length + 1) (lo := 128) (hi := 143) (by omega) (by omega) b0 b1 b2 (by omega) (by omega) with ⟨y1, y2, y3, y5, y6, y7, y8, y4⟩ | ⟨y1, y4⟩
      · exfalso; omega
      · left; exact ⟨x4, y4⟩
  · left; rw [if_neg (by omega), if_neg (by omega), if_neg (by omega), if_neg (by omega), if_neg (by omega), if_neg (by omega), if_neg (by omega), if_neg (by omega)]; exact ⟨by omega, dn5 h hc⟩
end Go.Proofs.YtbkbokfegjodnaaDoor
namespace Go.Proofs.YtbkbokfegjodnaaDoor
def decF (a : Nat) (l : List UInt8) : Nat := l.foldl (fun n c => 10 * n + (c.toNat - 48)) a
theorem decF_ge : ∀ (l : List UInt8) (a : Nat), a ≤ decF a l
  | [], a => Nat.le_refl _
  | c :: l, a => by
    have h := decF_ge l (10 * a + (c.toNat - 48))
    show a ≤ decF (10 * a + (c.toNat - 48)) l
    omega
theorem parseM_digits : ∀ (l : List UInt8) (a : Nat), (∀ c ∈ l, isDg c = true) → a ≤ 18446744073709551615 → Lib.parseUintM 18446744073709551615 a l = if decF a l ≤ 18446744073709551615 then .ok (decF a l) else .range
  | [], a, _, h => by rw [Lib.parseUintM]; exact (if_pos h).symm
  | c :: l, a, hd, h => by
    have hc := hd c (List.mem_cons_self ..)
    have hc2 : 48 ≤ c.toNat ∧ c.toNat ≤ 57 := by simpa [isDg] using hc
    rw [Lib.parseUintM, if_pos hc2]
    have hs : decF a (c :: l) = decF (10 * a + (c.toNat - 48)) l := rfl
    have hge := decF_ge l (10 * a + (c.toNat - 48))
    rw [hs]
    by_cases h1 : 1844674407370955162 ≤ a
    · rw [if_pos h1, if_neg (by omega)]
    · rw [if_neg h1]
      by_cases h2 : 18446744073709551615 < a * 10 + (c.toNat - 48)
      · rw [if_pos h2, if_neg (by omega)]
      · rw [if_neg h2, Nat.mul_comm a 10]
        exact parseM_digits l _ (fun x hx => hd x (List.mem_cons_of_mem _ hx)) (by omega)
/-- the digits behind a sign -/
def signed (m : Bool) (ds : List UInt8) : List UInt8 := if m then 45 :: ds else ds
theorem parse_digits (m : Bool) (ds : List UInt8) (hne : ds ≠ []) (hd : ∀ c ∈ ds, isDg c = true) : Lib.parseIntB 64 (signed m ds) =
    if (m = true ∧ 9223372036854775808 < decL ds) ∨ (m = false ∧ 9223372036854775808 ≤ decL ds) then .range else .ok (if m then -(decL ds : Int) else decL ds) := by
  have hu : Lib.parseUintB 64 ds = if decL ds ≤ 18446744073709551615 then .ok (decL ds) else .range := by
    unfold Lib.parseUintB
    rw [if_neg hne]
    exact parseM_digits ds 0 hd (by omega)
  cases m with
  | true =>
    show Lib.parseIntB 64 (45 :: ds) = _
    unfold Lib.parseIntB
    simp only [show (45 : UInt8).toNat = 45 from rfl, or_true, if_true, hu]
    by_cases h1 : decL ds ≤ 18446744073709551615
    · rw [if_pos h1]
      by_cases h2 : 9223372036854775808 < decL ds
      · simp [h2]
      · simp [h2]
    · rw [if_neg h1, if_pos (.inl ⟨trivial, by omega⟩)]
  | false =>
    obtain ⟨c, r, rfl⟩ := List.exists_cons_of_ne_nil hne
    have hc := hd c (List.mem_cons_self ..)
    have hc2 : 48 ≤ c.toNat ∧ c.toNat ≤ 57 := by simpa [isDg] using hc
    show Lib.parseIntB 64 (c :: r) = _
    unfold Lib.parseIntB
    have n1 : ¬ (c.toNat = 43 ∨ c.toNat = 45) := by omega
    have n2 : ¬ c.toNat = 45 := by omega
    simp only [if_neg n1, hu]
    simp only [n2, if_false]
    by_cases h1 : decL (c :: r) ≤ 18446744073709551615
    · rw [if_pos h1]
      by_cases h2 : 9223372036854775808 ≤ decL (c :: r)
      · simp [h2]
      · simp [h2]
    · rw [if_neg h1, if_pos (.inr ⟨trivial, by omega⟩)]
theorem jdg_app : ∀ l : List UInt8, (jdg l).1 ++ (jdg l).2 = l
  | [] => rfl
  | c :: r => by
    rw [jdg]
    split
    · show c :: ((jdg r).1 ++ (jdg r).2) = c :: r
      rw [jdg_app r]
    · rfl
theorem jdg_dg : ∀ l : List UInt8, ∀ c ∈ (jdg l).1, isDg c = true
  | [], c, h => by simp [jdg] at h
  | d :: r, c, h => by
    rw [jdg] at h
    split at h
    · rename_i hd
      rcases List.mem_cons.1 h with rfl | h
      · exact hd
      · exact jdg_dg r c h
    · simp at h
theorem jdg_stop : ∀ l : List UInt8, (jdg l).2 = [] ∨ ∃ c r, (jdg l).2 = c :: r ∧ isDg c = false
  | [] => .inl rfl
  | d :: r => by
    rw [jdg]
    split
    · exact jdg_stop r
    · rename_i hd
      exact .inr ⟨d, r, rfl, by simpa using hd⟩
theorem jds_app (l : List UInt8) : (jds l).1 ++ (jds l).2 = l := by
  cases l with
  | nil => rfl
  | cons c r =>
    rw [jds]
    split
    · rename_i h; rw [h]; rfl
    · show c :: ((jdg r).1 ++ (jdg r).2) = c :: r
      rw [jdg_app r]
theorem jds_dg (c : UInt8) (r : List UInt8) (h : isDg c = true) : (jds (c :: r)).1 ≠ [] ∧ ∀ x ∈ (jds (c :: r)).1, isDg x = true := by
  rw [jds]
  split
  · refine ⟨by simp, fun x hx => ?_⟩
    rcases List.mem_cons.1 hx with rfl | hx
    · rfl
    · simp at hx
  · refine ⟨by simp, fun x hx => ?_⟩
    rcases List.mem_cons.1 hx with rfl | hx
    · exact h
    · exact jdg_dg r x hx
end Go.Proofs.YtbkbokfegjodnaaDoor
namespace Go.Proofs.YtbkbokfegjodnaaDoor
open Go.RowKit Go.WideMaps Go.Maps
theorem mapLaw : Keyed Tryd.prog 9 := string_keyed Tryd.underlying9
theorem zeroInt (w : World) : (zeroValue 3).run Tryd.prog w = .ok (.int .i64 0) w := by kernel_rfl
theorem hasB_snoc (l : List ByteArray) (x s : ByteArray) : hasB (l ++ [x]) s = (hasB l s || (x.data.toList == s.data.toList)) := by
  simp [hasB, List.any_append]
/-- block B is a map that counts the names of l -/
def SeenAt (w : World) (B : Nat) (l : List ByteArray) : Prop :=
  ∃ n D, w.ownsMap Tryd.prog 9 (plainElem (H := Unit) Tryd.prog 3) B n D ∧ n ≤ l.length ∧
    ∀ s : ByteArray, ∃ c : Int, D.atKey (.string s.data.toList) (.lit (.int .i64 0)) = .lit (.int .i64 c) ∧ 0 ≤ c ∧ c ≤ l.length ∧ decide (0 < c) = hasB l s
theorem seen_new (w : World) : SeenAt (w.alloc (.map #[] 0)) w.heap.size [] :=
  ⟨0, .map [], World.ownsMap_made _ _ _ _, Nat.le_refl _, fun _ => ⟨0, rfl, by omega, by simp, rfl⟩⟩
theorem SeenAt.lt {w : World} {B : Nat} {l : List ByteArray} (h : SeenAt w B l) : B < w.heap.size := by
  obtain ⟨n, D, h, _⟩ := h; exact h.lt
theorem SeenAt.kept {w w' : World} {B : Nat} {l : List ByteArray} {r r' : Option Nat} (h : SeenAt w B l) (hu : Upd w w' r r') (hne : r ≠ some B) : SeenAt w' B l := by
  obtain ⟨n, D, h, h1⟩ := h
  exact ⟨n, D, h.kept hu.grown (fun e => hne e.symm), h1⟩
theorem SeenAt.below {w w' : World} {B : Nat} {l : List ByteArray} (h : SeenAt w B l) (hb : Below w.heap.size w w') : SeenAt w' B l :=
  h.kept (Upd.of_below hb none) (by simp)
theorem SeenAt.look {w : World} {B : Nat} {l : List ByteArray} (h : SeenAt w B l) (s : ByteArray) (hs : s.size ≤ maxLen) :
    ∃ c : Int, (Instr.lookup 87 (.map (some B)) (.string s) false).run Tryd.prog w = .ok (.int .i64 c) w ∧ 0 ≤ c ∧ c ≤ l.length ∧ decide (0 < c) = hasB l s := by
  obtain ⟨n, D, h, _, h2⟩ := h
  obtain ⟨c, hrun, hat, _⟩ := h.lookup_int mapLaw Tryd.underlying87 Tryd.underlying3 (zeroInt w) (keyOf_string_mk Tryd.underlying9 hs)
  obtain ⟨c', h3, h4⟩ := h2 s
  rw [h3] at hat
  injection hat with e1
  injection e1 with _ e2
  subst e2
  exact ⟨_, hrun, h4⟩
/-- one name more, in the walk -/
theorem wpList_seen {w : World} {ops : Array Oper} {rest : List Oper} {o : Oper} {a : Act} {Q : Exit → Act → World → Prop} {B : Nat} {l : List ByteArray}
    (hg : o.guard = none) (m x v : Operand) (hop : o.op = Op.mapUpdate 87 m x v) (hm : a.eval m = .map (some B)) (h : SeenAt w B l) (s : ByteArray) (c : Int) (hx : a.eval x = .string s) (hs : s.size ≤ maxLen)
    (u : Int) (hv : a.eval v = .int .i64 u) (hu : u = c + 1) (hlook : (Instr.lookup 87 (.map (some B)) (.string s) false).run Tryd.prog w = .ok (.int .i64 c) w) (hl : l.length < 9223372036854775807)
    (hK : ∀ w', SeenAt w' B (l ++ [s]) → Upd w w' (some B) (some B) → wpList Tryd.prog ops Q rest (a.put o.dst undef) w') :
    wpList Tryd.prog ops Q (o :: rest) a w := by
  obtain ⟨c2, hrun, hc0, hc1, hc2⟩ := h.look s hs
  rw [hlook] at hrun
  injection hrun with e1 _
  injection e1 with _ e2
  subst e2
  subst hu
  obtain ⟨n, D, hown, h1, h2⟩ := h
  refine wpList_mapUpdate_own w hg m x v 87 hop 9 3 mapLaw Tryd.underlying87 _ B n D hm hown (by unfold maxLen; omega) (.string s) _ (.string s.data.toList) hx hv (keyOf_string_mk Tryd.underlying9 hs) (.lit (.int .i64 (c + 1))) [] (by exact plainElem_int Tryd.underlying3 (by simp [Lit.wf, IntKind.min, IntKind.max, IntKind.signed, IntKind.bits]; omega)) ?_
  intro w' hown' hgrow
  refine hK w' ⟨n + 1, _, hown', by simp; omega, fun u => ?_⟩ ⟨hgrow, .inl rfl⟩
  rw [hasB_snoc]
  by_cases hsu : s = u
  · subst hsu
    exact ⟨c + 1, atKey_put_same hown.isMap (by simp [WideAt.IsKeyLit]) _ _, by omega, by simp; omega, by simp; omega⟩
  · obtain ⟨c', h3, h4, h5, h6⟩ := h2 u
    have hne : (s.data.toList == u.data.toList) = false := by
      rw [beq_eq_false_iff_ne]; intro e; exact hsu (ByteArray.ext (Array.ext' e))
    refine ⟨c', by rw [atKey_put_other (fun e => by injection e with e; exact hsu (ByteArray.ext (Array.ext' e.symm)))]; exact h3, h4, by simp; omega, by rw [hne, Bool.or_false]; exact h6⟩
end Go.Proofs.YtbkbokfegjodnaaDoor
namespace Go.Proofs.YtbkbokfegjodnaaDoor
open Go.RowKit
/-- Memory holds a reader of the text s at R. -/
structure SrAt (w : World) (R : Nat) (s : ByteArray) (st : St) : Prop where
  c0 : w.cell? ⟨R, 0, none⟩ = some (.string s)
  c1 : w.cell? ⟨R, 1, none⟩ = some (.int .i64 st.pos)
  c2 : w.cell? ⟨R, 2, none⟩ = some (.int .i64 st.err)
  c3 : w.cell? ⟨R, 3, none⟩ = some (.int .i64 st.place)
  f1 : w.frozen? ⟨R, 1, none⟩ = false
  f2 : w.frozen? ⟨R, 2, none⟩ = false
  f3 : w.frozen? ⟨R, 3, none⟩ = false
  pos : st.pos ≤ s.size
theorem SrAt.lt {w : World} {R : Nat} {s : ByteArray} {st : St} (h : SrAt w R s st) : R < w.heap.size := cell_lt h.c1
theorem SrAt.below {w w' : World} {R : Nat} {s : ByteArray} {st : St} (h : SrAt w R s st) (hb : Below w.heap.size w w') : SrAt w' R s st := by
  obtain ⟨h0, h1, h2, h3, f1, f2, f3, hp⟩ := h
  have hlt := cell_lt h1
  exact ⟨cell_below hb h0, cell_below hb h1, cell_below hb h2, cell_below hb h3, (hb.frozen hlt).trans f1, (hb.frozen (p := ⟨R, 2, none⟩) hlt).trans f2, (hb.frozen (p := ⟨R, 3, none⟩) hlt).trans f3, hp⟩
theorem SrAt.same {w w' : World} {R : Nat} {s : ByteArray} {st : St} (h : SrAt w R s st) (hh : w'.heap = w.heap) : SrAt w' R s st := by
  have hc : ∀ p, w'.cell? p = w.cell? p := fun p => by simp [World.cell?, hh]
  have hf : ∀ p, w'.frozen? p = w.frozen? p := fun p => by simp [World.frozen?, hh]
  obtain ⟨h0, h1, h2, h3, f1, f2, f3, hp⟩ := h
  exact ⟨by rw [hc]; exact h0, by rw [hc]; exact h1, by rw [hc]; exact h2, by rw [hc]; exact h3, by rw [hf]; exact f1, by rw [hf]; exact f2, by rw [hf]; exact f3, hp⟩
/-- The place goes on. -/
theorem SrAt.go {w : World} {R : Nat} {s : ByteArray} {st : St} (h : SrAt w R s st) {p : Nat} (hp : p ≤ s.size) : SrAt (w.setCell ⟨R, 1, none⟩ (.int .i64 p)) R s ⟨p, st.err, st.place⟩ := by
  obtain ⟨h0, h1, h2, h3, f1, f2, f3, _⟩ := h
  have ne : ∀ {i j : Nat}, i ≠ j → (⟨R, i, none⟩ : Addr) ≠ ⟨R, j, none⟩ := fun h e => h (by injection e)
  exact ⟨by rw [setO (ne (by decide))]; exact h0, setS h1, by rw [setO (ne (by decide))]; exact h2, by rw [setO (ne (by decide))]; exact h3, by rw [setF]; exact f1, by rw [setF]; exact f2, by rw [setF]; exact f3, hp⟩
/-- A fault is kept. -/
theorem SrAt.flt {w : World} {R : Nat} {s : ByteArray} {st : St} (h : SrAt w R s st) (e p : Nat) : SrAt ((w.setCell ⟨R, 2, none⟩ (.int .i64 e)).setCell ⟨R, 3, none⟩ (.int .i64 p)) R s ⟨st.pos, e, p⟩ := by
  obtain ⟨h0, h1, h2, h3, f1, f2, f3, hp⟩ := h
  have ne : ∀ {i j : Nat}, i ≠ j → (⟨R, i, none⟩ : Addr) ≠ ⟨R, j, none⟩ := fun h e => h (by injection e)
  exact ⟨by rw [setO (ne (by decide)), setO (ne (by decide))]; exact h0, by rw [setO (ne (by decide)), setO (ne (by decide))]; exact h1, by rw [setO (ne (by decide))]; exact setS h2, setS (by rw [setO (ne (by decide))]; exact h3), by rw [setF, setF]; exact f1, by rw [setF, setF]; exact f2, by rw [setF, setF]; exact f3, hp⟩
/-- A reader met in a later world: its block as another world has it. -/
theorem SrAt.after {w1 w' : World} {R : Nat} {s : ByteArray} {st : St} (h : SrAt w1 R s st) (hR : w'.heap[R]? = w1.heap[R]?) : SrAt w' R s st := by
  have hc : ∀ i, w'.cell? ⟨R, i, none⟩ = w1.cell? ⟨R, i, none⟩ := fun i => World.cell?_of_block (w := w1) hR
  have hf : ∀ i, w'.frozen? ⟨R, i, none⟩ = w1.frozen? ⟨R, i, none⟩ := fun i => World.frozen?_of_block (w := w1) hR
  exact ⟨(hc 0).trans h.c0, (hc 1).trans h.c1, (hc 2).trans h.c2, (hc 3).trans h.c3, (hf 1).trans h.f1, (hf 2).trans h.f2, (hf 3).trans h.f3, h.pos⟩
theorem sr_new {w : World} {s : ByteArray} {T : TypeId} : SrAt (w.alloc (.cells #[.string s, .int .i64 0, .int .i64 0, .int .i64 0] T)) w.heap.size s ⟨0, 0, 0⟩ := by
  have hh := heap_alloc_new w (.cells #[.string s, .int .i64 0, .int .i64 0, .int .i64 0] T)
  exact ⟨cell_of_row _ _ _ _ _ _ hh, cell_of_row _ _ _ _ _ _ hh, cell_of_row _ _ _ _ _ _ hh, cell_of_row _ _ _ _ _ _ hh, frozen_of_row _ _ _ _ _ hh, frozen_of_row _ _ _ _ _ hh, frozen_of_row _ _ _ _ _ hh, Nat.zero_le _⟩
/-- the place of a rest -/
theorem rest_len {s : ByteArray} {p : Nat} (h : p ≤ s.size) : s.size - (s.data.toList.drop p).length = p := by
  rw [List.length_drop, Array.length_toList]; show s.size - (s.size - p) = p; omega
theorem rest_cons {s : ByteArray} {p : Nat} (h : p < s.size) : s.data.toList.drop p = s[p] :: s.data.toList.drop (p + 1) := by
  rw [List.drop_eq_getElem_cons (show p < s.data.toList.length by simpa using h)]; rfl
theorem rest_nil {s : ByteArray} {p : Nat} (h : ¬ p < s.size) : s.data.toList.drop p = [] := by
  apply List.drop_of_length_le; rw [Array.length_toList]; exact Nat.le_of_not_lt h
theorem rest_at {s : ByteArray} {p : Nat} (h : p < s.size) : s.size - ((s.data.toList.drop (p + 1)).length + 1) = p := by
  rw [List.length_drop, Array.length_toList]; show s.size - (s.size - (p + 1) + 1) = p; omega
end Go.Proofs.YtbkbokfegjodnaaDoor
namespace Go.Proofs.YtbkbokfegjodnaaDoor
open Go.RowKit
/-- Since the world w: a reader R of the text tx is at s; the value at V has the names ns in nv, the items is in iv; the map at B has seen sn. -/
structure Itj (w : World) (R : Nat) (tx : ByteArray) (s0 : St) (V B : Nat) (kd : Int) (sn ns : List ByteArray) (is : List JV) (nv iv : Value) (xs : List Value) (s : St) (wr : World) : Prop where
  h0 : SrAt w R tx s0
  rd : SrAt wr R tx s
  upd : Upd w wr (some R) (some R)
  hV : w.heap.size ≤ V ∧ V ≠ B ∧ w.heap.size ≤ B
  blk : wr.heap[V]? = some (.cells #[.int .i64 kd, .int .i64 0, .string ⟨#[]⟩, nv, iv] 28 (0, 0))
  seen : SeenAt wr B sn
  nrow : Row wr 9 1 nv ns.length (ns.map Value.string)
  irow : Row wr 28 5 iv is.length xs
  nf : ∀ g, nv.ownBlock = some g → w.heap.size ≤ g ∧ g ≠ V ∧ g ≠ B ∧ iv.ownBlock ≠ some g
  fi : ∀ g, iv.ownBlock = some g → w.heap.size ≤ g ∧ g ≠ V ∧ g ≠ B
  reps : Reps wr (fun b => w.heap.size ≤ b ∧ b ≠ V ∧ b ≠ B ∧ nv.ownBlock ≠ some b ∧ iv.ownBlock ≠ some b) is xs
section
variable {w : World} {R : Nat} {tx : ByteArray} {s0 : St} {V B : Nat} {kd : Int} {sn ns : List ByteArray} {is : List JV} {nv iv : Value} {xs : List Value} {s : St} {wr : World}
theorem Itj.vlt (h : Itj w R tx s0 V B kd sn ns is nv iv xs s wr) : V < wr.heap.size := by
  rcases Nat.lt_or_ge V wr.heap.size with hlt | hge
  · exact hlt
  · have := h.blk; rw [Array.getElem?_eq_none hge] at this; cases this
/-- the reader has gone on -/
theorem Itj.move (h : Itj w R tx s0 V B kd sn ns is nv iv xs s wr) {w' : World} {s' : St} (hu : Upd wr w' (some R) (some R)) (hr : SrAt w' R tx s') : Itj w R tx s0 V B kd sn ns is nv iv xs s' w' := by
  have hR := h.h0.lt
  have hk : ∀ b, b < wr.heap.size → w.heap.size ≤ b → w'.heap[b]? = wr.heap[b]? := fun b hb hw => hu.block hb (fun e => by have := Option.some.inj e; omega)
  refine ⟨h.h0, hr, h.upd.trans hu, h.hV, (hk V h.vlt h.hV.1).trans h.blk, h.seen.kept hu (fun e => by have := Option.some.inj e; have := h.hV; omega), Row.kept h.nrow hu ?_, Row.kept h.irow hu ?_, h.nf, h.fi, h.reps.kept fun b hb ho => ⟨ho, hk b hb ho.1⟩⟩
  · exact .inr fun e => by have := (h.nf R e).1; omega
  · exact .inr fun e => by have := (h.fi R e).1; omega
/-- nothing has turned -/
theorem Itj.below (h : Itj w R tx s0 V B kd sn ns is nv iv xs s wr) {w' : World} (hb : Below wr.heap.size wr w') : Itj w R tx s0 V B kd sn ns is nv iv xs s w' :=
  h.move (Upd.of_below hb _) (h.rd.below hb)
/-- the map has seen one more -/
theorem Itj.mark (h : Itj w R tx s0 V B kd sn ns is nv iv xs s wr) {w' : World} {sn' : List ByteArray} (hs : SeenAt w' B sn') (hu : Upd wr w' (some B) (some B)) : Itj w R tx s0 V B kd sn' ns is nv iv xs s w' := by
  have hR := h.h0.lt
  have hV := h.hV
  have hb : Below w.heap.size wr w' := hu.below h.upd.grown.size (fun g hg => by have := Option.some.inj hg; omega)
  have hU := h.upd.trans_below hb
  have hk : ∀ b, b < wr.heap.size → b ≠ B → w'.heap[b]? = wr.heap[b]? := fun b hb hne => hu.block hb (fun e => hne (Option.some.inj e).symm)
  refine ⟨h.h0, h.rd.after (hb.block R hR), hU, h.hV, (hk V h.vlt hV.2.1).trans h.blk, hs, Row.kept h.nrow hu ?_, Row.kept h.irow hu ?_, h.nf, h.fi, h.reps.kept fun b hb ho => ⟨ho, hk b hb ho.2.2.1⟩⟩
  · exact .inr fun e => (h.nf B e).2.2.1 rfl
  · exact .inr fun e => (h.fi B e).2.2 rfl
/-- what lies at V, behind a row's growth -/
theorem Itj.at (h : Itj w R tx s0 V B kd sn ns is nv iv xs s wr) {w1 w2 : World} {r r' : Option Nat} (hb : Below wr.heap.size wr w1) (hu : Upd w1 w2 r r') (hr : r ≠ some V) : w2.heap[V]? = some (.cells #[.int .i64 kd, .int .i64 0, .string ⟨#[]⟩, nv, iv] 28 (0, 0)) :=
  (hu.block (Nat.lt_of_lt_of_le h.vlt hb.size) hr).trans ((hb.block V h.vlt).trans h.blk)
/-- a name more -/
theorem Itj.name (h : Itj w R tx s0 V B kd sn ns is nv iv xs s wr) {w1 w2 : World} {nv' : Value} {x : ByteArray} (hb : Below wr.heap.size wr w1) (hrow : Row w2 9 1 nv' (ns.length + 1) (ns.map Value.string ++ [.string x])) (hu : Upd w1 w2 nv.ownBlock nv'.ownBlock) :
    Itj w R tx s0 V B kd sn (ns ++ [x]) is nv' iv xs s (w2.setCell ⟨V, 3, none⟩ nv') := by
  have hR := h.h0.lt
  have hV := h.hV
  have hvl := h.vlt
  have hsz := hb.size
  have hsz2 := hu.grown.size
  have hgs := h.upd.grown.size
  have hnV : nv.ownBlock ≠ some V := fun e => (h.nf V e).2.1 rfl
  have hat := h.at hb hu hnV
  have hn' : ∀ g, nv'.ownBlock = some g → nv.ownBlock = some g ∨ w1.heap.size ≤ g := fun g hg => by
    rcases hu.own with e | ⟨g', e, hg'⟩
    · left; rw [← e]; exact hg
    · right; rw [e] at hg; rw [← Option.some.inj hg]; exact hg'
  have hb2 : Below w.heap.size wr w2 := (hb.mono hgs).trans (hu.below (by omega) (fun g hg => (h.nf g hg).1))
  have hb3 : Below w.heap.size wr (w2.setCell ⟨V, 3, none⟩ nv') := hb2.setCell hV.1 _
  have hU := h.upd.trans_below hb3
  have hk : ∀ b, b < wr.heap.size → b ≠ V → nv.ownBlock ≠ some b → (w2.setCell ⟨V, 3, none⟩ nv').heap[b]? = wr.heap[b]? := fun b hbl hne hno => by
    rw [heap_setCell_other _ _ _ _ hne]; exact (hu.block (by omega) hno).trans (hb.block b hbl)
  have hBlt := h.seen.lt
  refine ⟨h.h0, h.rd.after (hb3.block R hR), hU, h.hV, ?_, ?_, ?_, ?_, ?_, h.fi, ?_⟩
  · exact heap_setCell_same w2 V 3 _ _ nv' hat
  · obtain ⟨m, D, ho, h1⟩ := h.seen
    obtain ⟨es, clock, hBb, rest⟩ := ho
    exact ⟨m, D, ⟨es, clock, (hk B hBlt (fun e => hV.2.1 e.symm) (fun e => (h.nf B e).2.2.1 rfl)).trans hBb, rest⟩, h1⟩
  · rw [List.length_append, List.map_append]
    refine Row.kept hrow (Upd.of_setCell w2 ⟨V, 3, none⟩ nv') ?_
    cases e : nv'.ownBlock with
    | none => exact .inl rfl
    | some g =>
      right; intro e2
      have hgV : g = V := Option.some.inj e2
      rcases hn' g e with h1 | h1
      · exact (h.nf g h1).2.1 hgV
      · omega
  · have h1 : Row w2 28 5 iv is.length xs := Row.kept (h.irow.below hb) hu (by
      cases e : iv.ownBlock with
      | none => exact .inl rfl
      | some g => right; intro e2; exact (h.nf g e2.symm).2.2.2 e)
    refine Row.kept h1 (Upd.of_setCell w2 ⟨V, 3, none⟩ nv') ?_
    exact .inr fun e => (h.fi V e).2.1 rfl
  · intro g hg
    rcases hn' g hg with h1 | h1
    · exact h.nf g h1
    · exact ⟨by omega, by omega, by omega, fun e => by have := h.irow.lt e; omega⟩
  · refine h.reps.kept fun b hbl ho => ⟨⟨ho.1, ho.2.1, ho.2.2.1, fun e => ?_, ho.2.2.2.2⟩, hk b hbl ho.2.1 ho.2.2.2.1⟩
    rcases hn' b e with h1 | h1
    · exact ho.2.2.2.1 h1
    · omega
/-- an item more: a tree of memory made since the world w9 -/
theorem Itj.item (h : Itj w R tx s0 V B kd sn ns is nv iv xs s wr) {w9 w1 w2 : World} {iv' : Value} {t : JV} {cs : List Value} {s9 : St} (h9 : Itj w R tx s0 V B kd sn ns is nv iv xs s9 w9) (ht : Rep wr (fun b => w9.heap.size ≤ b) t cs) (hb : Below wr.heap.size wr w1)
    (hrow : Row w2 28 5 iv' (is.length + 1) (xs ++ cs)) (hu : Upd w1 w2 iv.ownBlock iv'.ownBlock) :
    Itj w R tx s0 V B kd sn ns (is ++ [t]) nv iv' (xs ++ cs) s (w2.setCell ⟨V, 4, none⟩ iv') := by
  have hR := h.h0.lt
  have hV := h.hV
  have hvl := h.vlt
  have hv9 := h9.vlt
  have hB9 := h9.seen.lt
  have hsz := hb.size
  have hsz2 := hu.grown.size
  have hgs := h.upd.grown.size
  have hg9 := h9.upd.grown.size
  have hiV : iv.ownBlock ≠ some V := fun e => (h.fi V e).2.1 rfl
  have hat := h.at hb hu hiV
  have hi' : ∀ g, iv'.ownBlock = some g → iv.ownBlock = some g ∨ w1.heap.size ≤ g := fun g hg => by
    rcases hu.own with e | ⟨g', e, hg'⟩
    · left; rw [← e]; exact hg
    · right; rw [e] at hg; rw [← Option.some.inj hg]; exact hg'
  have hb2 : Below w.heap.size wr w2 := (hb.mono hgs).trans (hu.below (by omega) (fun g hg => (h.fi g hg).1))
  have hb3 : Below w.heap.size wr (w2.setCell ⟨V, 4, none⟩ iv') := hb2.setCell hV.1 _
  have hU := h.upd.trans_below hb3
  have hk : ∀ b, b < wr.heap.size → b ≠ V → iv.ownBlock ≠ some b → (w2.setCell ⟨V, 4, none⟩ iv').heap[b]? = wr.heap[b]? := fun b hbl hne hno => by
    rw [heap_setCell_other _ _ _ _ hne]; exact (hu.block (by omega) hno).trans (hb.block b hbl)
  have hBlt := h.seen.lt
  have hkeep : ∀ b, b < wr.heap.size → (w.heap.size ≤ b ∧ b ≠ V ∧ b ≠ B ∧ nv.ownBlock ≠ some b ∧ iv.ownBlock ≠ some b) → (w.heap.size ≤ b ∧ b ≠ V ∧ b ≠ B ∧ nv.ownBlock ≠ some b ∧ iv'.ownBlock ≠ some b) ∧ (w2.setCell ⟨V, 4, none⟩ iv').heap[b]? = wr.heap[b]? := fun b hbl ho => by
    refine ⟨⟨ho.1, ho.2.1, ho.2.2.1, ho.2.2.2.1, fun e => ?_⟩, hk b hbl ho.2.1 ho.2.2.2.2⟩
    rcases hi' b e with h1 | h1
    · exact ho.2.2.2.2 h1
    · omega
  refine ⟨h.h0, h.rd.after (hb3.block R hR), hU, h.hV, ?_, ?_, ?_, ?_, ?_, ?_, ?_⟩
  · exact heap_setCell_same w2 V 4 _ _ iv' hat
  · obtain ⟨m, D, ho, h1⟩ := h.seen
    obtain ⟨es, clock, hBb, rest⟩ := ho
    exact ⟨m, D, ⟨es, clock, (hk B hBlt (fun e => hV.2.1 e.symm) (fun e => (h.fi B e).2.2 rfl)).trans hBb, rest⟩, h1⟩
  · have h1 : Row w2 9 1 nv ns.length (ns.map Value.string) := Row.kept (h.nrow.below hb) hu (by
      cases e : nv.ownBlock with
      | none => exact .inl rfl
      | some g => right; intro e2; exact (h.nf g e).2.2.2 e2.symm)
    refine Row.kept h1 (Upd.of_setCell w2 ⟨V, 4, none⟩ iv') ?_
    exact .inr fun e => (h.nf V e).2.1 rfl
  · rw [List.length_append]
    refine Row.kept hrow (Upd.of_setCell w2 ⟨V, 4, none⟩ iv') ?_
    cases e : iv'.ownBlock with
    | none => exact .inl rfl
    | some g =>
      right; intro e2
      have hgV : g = V := Option.some.inj e2
      rcases hi' g e with h1 | h1
      · exact (h.fi g h1).2.1 hgV
      · omega
  · intro g hg
    have h1 := h.nf g hg
    refine ⟨h1.1, h1.2.1, h1.2.2.1, fun e => ?_⟩
    rcases hi' g e with h2 | h2
    · exact h1.2.2.2 h2
    · have := h.nrow.lt hg; omega
  · intro g hg
    rcases hi' g hg with h1 | h1
    · exact h.fi g h1
    · exact ⟨by omega, by omega, by omega⟩
  · refine Reps.snoc ?_ (h.reps.kept hkeep)
    refine Rep.kept (fun b hbl hbw => hkeep b hbl ?_) t cs ht
    exact ⟨by omega, by omega, by omega, fun e => by have := h9.nrow.lt e; omega, fun e => by have := h9.irow.lt e; omega⟩
/-- the value is whole -/
theorem Itj.done (h : Itj w R tx s0 V B kd sn ns is nv iv xs s wr) (hk : -9223372036854775808 ≤ kd ∧ kd ≤ 9223372036854775807) :
    ∃ an cn ai ci, nv = .slice an ns.length cn ∧ iv = .slice ai is.length ci ∧ Rep wr (fun b => w.heap.size ≤ b ∧ b ≠ V) (.mk kd 0 ⟨#[]⟩ ns is) [.int .i64 kd, .int .i64 0, .string ⟨#[]⟩, .slice an ns.length cn, .slice ai is.length ci] := by
  obtain ⟨ai, ci, hv, hci, hit⟩ := h.irow.items (ok := fun b => w.heap.size ≤ b ∧ b ≠ V) (h.reps.kept fun b _ hb => ⟨⟨hb.1, hb.2.1⟩, rfl⟩) (fun g hg => ⟨(h.fi g hg).1, (h.fi g hg).2.1⟩)
  obtain ⟨an, cn, hn, hcn, hst⟩ := h.nrow.strs (ok := fun b => w.heap.size ≤ b ∧ b ≠ V) (fun g hg => ⟨(h.nf g hg).1, (h.nf g hg).2.1⟩)
  exact ⟨an, cn, ai, ci, hn, hv, rep_mk.2 ⟨hk, by omega, Nat.zero_le _, an, cn, ai, ci, rfl, hcn, hci, hst, hit⟩⟩
end
end Go.Proofs.YtbkbokfegjodnaaDoor
namespace Go.Proofs.YtbkbokfegjodnaaDoor
open Go.RowKit
/-- Since the world w: a reader R of the text tx is at s; the value at V has the names ns in nv, the items is in iv. -/
structure Itk (w : World) (R : Nat) (tx : ByteArray) (s0 : St) (V : Nat) (kd : Int) (ns : List ByteArray) (is : List JV) (nv iv : Value) (xs : List Value) (s : St) (wr : World) : Prop where
  h0 : SrAt w R tx s0
  rd : SrAt wr R tx s
  upd : Upd w wr (some R) (some R)
  hV : w.heap.size ≤ V
  blk : wr.heap[V]? = some (.cells #[.int .i64 kd, .int .i64 0, .string ⟨#[]⟩, nv, iv] 28 (0, 0))
  nrow : Row wr 9 1 nv ns.length (ns.map Value.string)
  irow : Row wr 28 5 iv is.length xs
  nf : ∀ g, nv.ownBlock = some g → w.heap.size ≤ g ∧ g ≠ V ∧ iv.ownBlock ≠ some g
  fi : ∀ g, iv.ownBlock = some g → w.heap.size ≤ g ∧ g ≠ V
  reps : Reps wr (fun b => w.heap.size ≤ b ∧ b ≠ V ∧ nv.ownBlock ≠ some b ∧ iv.ownBlock ≠ some b) is xs
section
variable {w : World} {R : Nat} {tx : ByteArray} {s0 : St} {V : Nat} {kd : Int} {ns : List ByteArray} {is : List JV} {nv iv : Value} {xs : List Value} {s : St} {wr : World}
theorem Itk.vlt (h : Itk w R tx s0 V kd ns is nv iv xs s wr) : V < wr.heap.size := by
  rcases Nat.lt_or_ge V wr.heap.size with hlt | hge
  · exact hlt
  · have := h.blk; rw [Array.getElem?_eq_none hge] at this; cases this
/-- the reader has gone on -/
theorem Itk.move (h : Itk w R tx s0 V kd ns is nv iv xs s wr) {w' : World} {s' : St} (hu : Upd wr w' (some R) (some R)) (hr : SrAt w' R tx s') : Itk w R tx s0 V kd ns is nv iv xs s' w' := by
  have hR := h.h0.lt
  have hk : ∀ b, b < wr.heap.size → w.heap.size ≤ b → w'.heap[b]? = wr.heap[b]? := fun b hb hw => hu.block hb (fun e => by have := Option.some.inj e; omega)
  refine ⟨h.h0, hr, h.upd.trans hu, h.hV, (hk V h.vlt h.hV).trans h.blk, Row.kept h.nrow hu ?_, Row.kept h.irow hu ?_, h.nf, h.fi, h.reps.kept fun b hb ho => ⟨ho, hk b hb ho.1⟩⟩
  · exact .inr fun e => by have := (h.nf R e).1; omega
  · exact .inr fun e => by have := (h.fi R e).1; omega
/-- nothing has turned -/
theorem Itk.below (h : Itk w R tx s0 V kd ns is nv iv xs s wr) {w' : World} (hb : Below wr.heap.size wr w') : Itk w R tx s0 V kd ns is nv iv xs s w' :=
  h.move (Upd.of_below hb _) (h.rd.below hb)
/-- what lies at V, behind a row's growth -/
theorem Itk.at (h : Itk w R tx s0 V kd ns is nv iv xs s wr) {w1 w2 : World} {r r' : Option Nat} (hb : Below wr.heap.size wr w1) (hu : Upd w1 w2 r r') (hr : r ≠ some V) : w2.heap[V]? = some (.cells #[.int .i64 kd, .int .i64 0, .string ⟨#[]⟩, nv, iv] 28 (0, 0)) :=
  (hu.block (Nat.lt_of_lt_of_le h.vlt hb.size) hr).trans ((hb.block V h.vlt).trans h.blk)
/-- a name's cell -/
theorem Itk.nameAt (h : Itk w R tx s0 V kd ns is nv iv xs s wr) {j : Nat} (hj : j < ns.length) : ∃ g c, nv = .slice (some ⟨g, 0, none⟩) ns.length c ∧ (ns.length ≤ c ∧ c ≤ maxLen) ∧ wr.cell? ⟨g, j, none⟩ = some (.string ns[j]) := by
  obtain ⟨a, c, hv, h1, h2, h3⟩ := h.nrow.form
  rcases h3 with ⟨_, h3, _⟩ | ⟨g, ha, _, _, hl⟩
  · omega
  · refine ⟨g, c, by rw [hv, ha], ⟨h1, h2⟩, ?_⟩
    have := hl j (.string ns[j]) (by simp [hj])
    rw [Nat.zero_add] at this
    exact this
theorem Itk.nsl (h : Itk w R tx s0 V kd ns is nv iv xs s wr) : ∃ a c, nv = .slice a ns.length c := by
  obtain ⟨a, c, hv, _⟩ := h.nrow.form
  exact ⟨a, c, hv⟩
/-- a name more -/
theorem Itk.name (h : Itk w R tx s0 V kd ns is nv iv xs s wr) {w1 w2 : World} {nv' : Value} {x : ByteArray} (hb : Below wr.heap.size wr w1) (hrow : Row w2 9 1 nv' (ns.length + 1) (ns.map Value.string ++ [.string x])) (hu : Upd w1 w2 nv.ownBlock nv'.ownBlock) :
    Itk w R tx s0 V kd (ns ++ [x]) is nv' iv xs s (w2.setCell ⟨V, 3, none⟩ nv') := by
  have hR := h.h0.lt
  have hV := h.hV
  have hvl := h.vlt
  have hsz := hb.size
  have hsz2 := hu.grown.size
  have hgs := h.upd.grown.size
  have hnV : nv.ownBlock ≠ some V := fun e => (h.nf V e).2.1 rfl
  have hat := h.at hb hu hnV
  have hn' : ∀ g, nv'.ownBlock = some g → nv.ownBlock = some g ∨ w1.heap.size ≤ g := fun g hg => by
    rcases hu.own with e | ⟨g', e, hg'⟩
    · left; rw [← e]; exact hg
    · right; rw [e] at hg; rw [← Option.some.inj hg]; exact hg'
  have hb2 : Below w.heap.size wr w2 := (hb.mono hgs).trans (hu.below (by omega) (fun g hg => (h.nf g hg).1))
  have hb3 : Below w.heap.size wr (w2.setCell ⟨V, 3, none⟩ nv') := hb2.setCell hV _
  have hU := h.upd.trans_below hb3
  have hk : ∀ b, b < wr.heap.size → b ≠ V → nv.ownBlock ≠ some b → (w2.setCell ⟨V, 3, none⟩ nv').heap[b]? = wr.heap[b]? := fun b hbl hne hno => by
    rw [heap_setCell_other _ _ _ _ hne]; exact (hu.block (by omega) hno).trans (hb.block b hbl)
  refine ⟨h.h0, h.rd.after (hb3.block R hR), hU, h.hV, ?_, ?_, ?_, ?_, h.fi, ?_⟩
  · exact heap_setCell_same w2 V 3 _ _ nv' hat
  · rw [List.length_append, List.map_append]
    refine Row.kept hrow (Upd.of_setCell w2 ⟨V, 3, none⟩ nv') ?_
    cases e : nv'.ownBlock with
    | none => exact .inl rfl
    | some g =>
      right; intro e2
      have hgV : g = V := Option.some.inj e2
      rcases hn' g e with h1 | h1
      · exact (h.nf g h1).2.1 hgV
      · omega
  · have h1 : Row w2 28 5 iv is.length xs := Row.kept (h.irow.below hb) hu (by
      cases e : iv.ownBlock with
      | none => exact .inl rfl
      | some g => right; intro e2; exact (h.nf g e2.symm).2.2 e)
    refine Row.kept h1 (Upd.of_setCell w2 ⟨V, 3, none⟩ nv') ?_
    exact .inr fun e => (h.fi V e).2 rfl
  · intro g hg
    rcases hn' g hg with h1 | h1
    · exact h.nf g h1
    · exact ⟨by omega, by omega, fun e => by have := h.irow.lt e; omega⟩
  · refine h.reps.kept fun b hbl ho => ⟨⟨ho.1, ho.2.1, fun e => ?_, ho.2.2.2⟩, hk b hbl ho.2.1 ho.2.2.1⟩
    rcases hn' b e with h1 | h1
    · exact ho.2.2.1 h1
    · omega
/-- an item more: a tree of memory made since the world w9 -/
theorem Itk.item (h : Itk w R tx s0 V kd ns is nv iv xs s wr) {w9 w1 w2 : World} {iv' : Value} {t : JV} {cs : List Value} {s9 : St} (h9 : Itk w R tx s0 V kd ns is nv iv xs s9 w9) (ht : Rep wr (fun b => w9.heap.size ≤ b) t cs) (hb : Below wr.heap.size wr w1)
    (hrow : Row w2 28 5 iv' (is.length + 1) (xs ++ cs)) (hu : Upd w1 w2 iv.ownBlock iv'.ownBlock) :
    Itk w R tx s0 V kd ns (is ++ [t]) nv iv' (xs ++ cs) s (w2.setCell ⟨V, 4, none⟩ iv') := by
  have hR := h.h0.lt
  have hV := h.hV
  have hvl := h.vlt
  have hv9 := h9.vlt
  have hsz := hb.size
  have hsz2 := hu.grown.size
  have hgs := h.upd.grown.size
  have hg9 := h9.upd.grown.size
  have hiV : iv.ownBlock ≠ some V := fun e => (h.fi V e).2 rfl
  have hat := h.at hb hu hiV
  have hi' : ∀ g, iv'.ownBlock = some g → iv.ownBlock = some g ∨ w1.heap.size ≤ g := fun g hg => by
    rcases hu.own with e | ⟨g', e, hg'⟩
    · left; rw [← e]; exact hg
    · right; rw [e] at hg; rw [← Option.some.inj hg]; exact hg'
  have hb2 : Below w.heap.size wr w2 := (hb.mono hgs).trans (hu.below (by omega) (fun g hg => (h.fi g hg).1))
  have hb3 : Below w.heap.size wr (w2.setCell ⟨V, 4, none⟩ iv') := hb2.setCell hV _
  have hU := h.upd.trans_below hb3
  have hk : ∀ b, b < wr.heap.size → b ≠ V → iv.ownBlock ≠ some b → (w2.setCell ⟨V, 4, none⟩ iv').heap[b]? = wr.heap[b]? := fun b hbl hne hno => by
    rw [heap_setCell_other _ _ _ _ hne]; exact (hu.block (by omega) hno).trans (hb.block b hbl)
  have hkeep : ∀ b, b < wr.heap.size → (w.heap.size ≤ b ∧ b ≠ V ∧ nv.ownBlock ≠ some b ∧ iv.ownBlock ≠ some b) → (w.heap.size ≤ b ∧ b ≠ V ∧ nv.ownBlock ≠ some b ∧ iv'.ownBlock ≠ some b) ∧ (w2.setCell ⟨V, 4, none⟩ iv').heap[b]? = wr.heap[b]? := fun b hbl ho => by
    refine ⟨⟨ho.1, ho.2.1, ho.2.2.1, fun e => ?_⟩, hk b hbl ho.2.1 ho.2.2.2⟩
    rcases hi' b e with h1 | h1
    · exact ho.2.2.2 h1
    · omega
  refine ⟨h.h0, h.rd.after (hb3.block R hR), hU, h.hV, ?_, ?_, ?_, ?_, ?_, ?_⟩
  · exact heap_setCell_same w2 V 4 _ _ iv' hat
  · have h1 : Row w2 9 1 nv ns.length (ns.map Value.string) := Row.kept (h.nrow.below hb) hu (by
      cases e : nv.ownBlock with
      | none => exact .inl rfl
      | some g => right; intro e2; exact (h.nf g e).2.2 e2.symm)
    refine Row.kept h1 (Upd.of_setCell w2 ⟨V, 4, none⟩ iv') ?_
    exact .inr fun e => (h.nf V e).2.1 rfl
  · rw [List.length_append]
    refine Row.kept hrow (Upd.of_setCell w2 ⟨V, 4, none⟩ iv') ?_
    cases e : iv'.ownBlock with
    | none => exact .inl rfl
    | some g =>
      right; intro e2
      have hgV : g = V := Option.some.inj e2
      rcases hi' g e with h1 | h1
      · exact (h.fi g h1).2 hgV
      · omega
  · intro g hg
    have h1 := h.nf g hg
    refine ⟨h1.1, h1.2.1, fun e => ?_⟩
    rcases hi' g e with h2 | h2
    · exact h1.2.2 h2
    · have := h.nrow.lt hg; omega
  · intro g hg
    rcases hi' g hg with h1 | h1
    · exact h.fi g h1
    · exact ⟨by omega, by omega⟩
  · refine Reps.snoc ?_ (h.reps.kept hkeep)
    refine Rep.kept (fun b hbl hbw => hkeep b hbl ?_) t cs ht
    exact ⟨by omega, by omega, fun e => by have := h9.nrow.lt e; omega, fun e => by have := h9.irow.lt e; omega⟩
/-- the value is whole -/
theorem Itk.done (h : Itk w R tx s0 V kd ns is nv iv xs s wr) (hk : -9223372036854775808 ≤ kd ∧ kd ≤ 9223372036854775807) :
    ∃ an cn ai ci, nv = .slice an ns.length cn ∧ iv = .slice ai is.length ci ∧ Rep wr (fun b => w.heap.size ≤ b ∧ b ≠ V) (.mk kd 0 ⟨#[]⟩ ns is) [.int .i64 kd, .int .i64 0, .string ⟨#[]⟩, .slice an ns.length cn, .slice ai is.length ci] := by
  obtain ⟨ai, ci, hv, hci, hit⟩ := h.irow.items (ok := fun b => w.heap.size ≤ b ∧ b ≠ V) (h.reps.kept fun b _ hb => ⟨⟨hb.1, hb.2.1⟩, rfl⟩) (fun g hg => ⟨(h.fi g hg).1, (h.fi g hg).2⟩)
  obtain ⟨an, cn, hn, hcn, hst⟩ := h.nrow.strs (ok := fun b => w.heap.size ≤ b ∧ b ≠ V) (fun g hg => ⟨(h.nf g hg).1, (h.nf g hg).2.1⟩)
  exact ⟨an, cn, ai, ci, hn, hv, rep_mk.2 ⟨hk, by omega, Nat.zero_le _, an, cn, ai, ci, rfl, hcn, hci, hst, hit⟩⟩
end
end Go.Proofs.YtbkbokfegjodnaaDoor
namespace Go.Proofs.YtbkbokfegjodnaaDoor
open Go.RowKit
set_option maxHeartbeats 1000000 in
theorem of_c (n : Int) (w : World) : Calls Tryd.prog 31 #[.int .i64 n] w fun r w' => r = .returned (.agg #[.int .i64 3, .int .i64 n, .string ⟨#[]⟩, .slice none 0 0, .slice none 0 0]) ∧ Below w.heap.size w w' := by
  have hh := heap_alloc_new w (.cells #[.int .i64 0, .int .i64 0, .string ⟨#[]⟩, .slice none 0 0, .slice none 0 0] 28)
  have hb := (Below.refl w.heap.size w).alloc (Nat.le_refl _) (.cells #[.int .i64 0, .int .i64 0, .string ⟨#[]⟩, .slice none 0 0, .slice none 0 0] 28)
  have HH := Lib.hid hh
  have HB := Lib.hid hb
  clear hh hb
  go_enter Tryd.func31, Tryd.ntmps31
  go_wp2
  (try simp only [Exit.inBlock, Exit.then])
  have hh := heap_alloc_new w (.cells #[.int .i64 3, .int .i64 n, .string ⟨#[]⟩, .slice none 0 0, .slice none 0 0] 28)
  refine bodyPost_ret (results_cell_row rfl _ _ w.heap.size 28 _ (0, 0) _ (by rfl) hh Tryd.underlying28 rfl (by kernel_rfl)) rfl ?_
  exact ⟨rfl, (Below.refl _ _).alloc (Nat.le_refl _) _⟩
set_option maxHeartbeats 1000000 in
theorem flagT_c  (w : World) : Calls Tryd.prog 33 #[.bool true] w fun r w' => r = .returned (.agg #[.int .i64 2, .int .i64 0, .string ⟨#[]⟩, .slice none 0 0, .slice none 0 0]) ∧ Below w.heap.size w w' := by
  have hh := heap_alloc_new w (.cells #[.int .i64 0, .int .i64 0, .string ⟨#[]⟩, .slice none 0 0, .slice none 0 0] 28)
  have hb := (Below.refl w.heap.size w).alloc (Nat.le_refl _) (.cells #[.int .i64 0, .int .i64 0, .string ⟨#[]⟩, .slice none 0 0, .slice none 0 0] 28)
  have HH := Lib.hid hh
  have HB := Lib.hid hb
  clear hh hb
  go_enter Tryd.func33, Tryd.ntmps33
  go_wp2
  (try simp only [Exit.inBlock, Exit.then])
  have hh := heap_alloc_new w (.cells #[.int .i64 2, .int .i64 0, .string ⟨#[]⟩, .slice none 0 0, .slice none 0 0] 28)
  refine bodyPost_ret (results_cell_row rfl _ _ w.heap.size 28 _ (0, 0) _ (by rfl) hh Tryd.underlying28 rfl (by kernel_rfl)) rfl ?_
  exact ⟨rfl, (Below.refl _ _).alloc (Nat.le_refl _) _⟩
set_option maxHeartbeats 1000000 in
theorem flagF_c  (w : World) : Calls Tryd.prog 33 #[.bool false] w fun r w' => r = .returned (.agg #[.int .i64 1, .int .i64 0, .string ⟨#[]⟩, .slice none 0 0, .slice none 0 0]) ∧ Below w.heap.size w w' := by
  have hh := heap_alloc_new w (.cells #[.int .i64 0, .int .i64 0, .string ⟨#[]⟩, .slice none 0 0, .slice none 0 0] 28)
  have hb := (Below.refl w.heap.size w).alloc (Nat.le_refl _) (.cells #[.int .i64 0, .int .i64 0, .string ⟨#[]⟩, .slice none 0 0, .slice none 0 0] 28)
  have HH := Lib.hid hh
  have HB := Lib.hid hb
  clear hh hb
  go_enter Tryd.func33, Tryd.ntmps33
  go_wp2
  (try simp only [Exit.inBlock, Exit.then])
  have hh := heap_alloc_new w (.cells #[.int .i64 1, .int .i64 0, .string ⟨#[]⟩, .slice none 0 0, .slice none 0 0] 28)
  refine bodyPost_ret (results_cell_row rfl _ _ w.heap.size 28 _ (0, 0) _ (by rfl) hh Tryd.underlying28 rfl (by kernel_rfl)) rfl ?_
  exact ⟨rfl, (Below.refl _ _).alloc (Nat.le_refl _) _⟩
set_option maxHeartbeats 1000000 in
theorem rdWord_c (x : ByteArray) (w : World) : Calls Tryd.prog 32 #[.string x] w fun r w' => r = .returned (.agg #[.int .i64 4, .int .i64 0, .string x, .slice none 0 0, .slice none 0 0]) ∧ Below w.heap.size w w' := by
  have hh := heap_alloc_new w (.cells #[.int .i64 0, .int .i64 0, .string ⟨#[]⟩, .slice none 0 0, .slice none 0 0] 28)
  have hb := (Below.refl w.heap.size w).alloc (Nat.le_refl _) (.cells #[.int .i64 0, .int .i64 0, .string ⟨#[]⟩, .slice none 0 0, .slice none 0 0] 28)
  have HH := Lib.hid hh
  have HB := Lib.hid hb
  clear hh hb
  go_enter Tryd.func32, Tryd.ntmps32
  go_wp2
  (try simp only [Exit.inBlock, Exit.then])
  have hh := heap_alloc_new w (.cells #[.int .i64 4, .int .i64 0, .string x, .slice none 0 0, .slice none 0 0] 28)
  refine bodyPost_ret (results_cell_row rfl _ _ w.heap.size 28 _ (0, 0) _ (by rfl) hh Tryd.underlying28 rfl (by kernel_rfl)) rfl ?_
  exact ⟨rfl, (Below.refl _ _).alloc (Nat.le_refl _) _⟩
end Go.Proofs.YtbkbokfegjodnaaDoor
