/- Trees in memory, slices that a call owns, bytes that it appends to; the last step of a law; plain laws of trees and characters. Conditions: what the laws name. -/
import Derived.WalkKit
import Derived.Deep.QuietTactic
import Derived.Lib.Hide
import Derived.ProofKit
import Derived.ChangeSame
import Derived.OpenShut
import Derived.WideKeyArgs
import Derived.OwnWalk
import Derived.RegionTactic
import Derived.Deep.AppendLies
import Derived.Test.YtbkbokfegjodnaaDoorRows
import Derived.WalkSpells
import Derived.WalkLawsBesides
import Derived.Handy
import Derived.BigQuiet
import Derived.Lib.QuietBelow
import Derived.Deep.RegionHeld3
import Derived.Deep.DeepCutAuto
import Derived.Lib.ValidLaws
namespace Go.Proofs.YtbkbokfegjodnaaDoor
open Go.RowKit
theorem quietS {P : Program} {f : FuncId} {args : Array Value} {w : World} {n : Nat} {v : Value}
    (h : Calls P f args (w.drewN n) fun e w' => e = .returned v ∧ w' = w.drewN n) : Calls P f args (w.drewN n) fun e w'' => e = .returned v ∧ ∃ m, w'' = w.drewN m :=
  h.mono fun _ _ ⟨he, hm⟩ => ⟨he, n, hm⟩
theorem quietD {P : Program} {f : FuncId} {args : Array Value} {w : World} {n : Nat} {v : Value}
    (h : Calls P f args (w.drewN n) fun e w' => e = .returned v ∧ ∃ m, w' = (w.drewN n).drewN m) : Calls P f args (w.drewN n) fun e w'' => e = .returned v ∧ ∃ m, w'' = w.drewN m :=
  h.mono fun _ _ ⟨he, m, hm⟩ => ⟨he, n + m, by rw [hm, World.drewN_drewN]⟩
theorem quietS2 {P : Program} {f : FuncId} {args : Array Value} {w : World} {a n : Nat} {v : Value}
    (h : Calls P f args (w.drewN (a + n)) fun e w' => e = .returned v ∧ w' = w.drewN (a + n)) : Calls P f args (w.drewN (a + n)) fun e w'' => e = .returned v ∧ ∃ m, w'' = w.drewN (a + m) :=
  h.mono fun _ _ ⟨he, hm⟩ => ⟨he, n, hm⟩
theorem quietD2 {P : Program} {f : FuncId} {args : Array Value} {w : World} {a n : Nat} {v : Value}
    (h : Calls P f args (w.drewN (a + n)) fun e w' => e = .returned v ∧ ∃ m, w' = (w.drewN (a + n)).drewN m) : Calls P f args (w.drewN (a + n)) fun e w'' => e = .returned v ∧ ∃ m, w'' = w.drewN (a + m) :=
  h.mono fun _ _ ⟨he, m, hm⟩ => ⟨he, n + m, by rw [hm, World.drewN_drewN, Nat.add_assoc]⟩
theorem below_drewN {B : Nat} {a w : World} (h : Below B a w) (n : Nat) : Below B a (w.drewN n) := ⟨h.os, h.tape, h.output, h.size, h.block⟩
theorem below_drewN' (w : World) (n : Nat) : Below w.heap.size w (w.drewN n) := below_drewN (Below.refl _ _) n
theorem cell_lt {w : World} {p : Addr} {v : Value} (h : w.cell? p = some v) : p.block < w.heap.size := by
  rcases Nat.lt_or_ge p.block w.heap.size with h' | h'
  · exact h'
  · simp [World.cell?, Array.getElem?_eq_none h'] at h
theorem cell_below {w w' : World} (h : Below w.heap.size w w') {p : Addr} {v : Value} (hc : w.cell? p = some v) : w'.cell? p = some v := by
  rw [h.cell (cell_lt hc)]; exact hc
theorem setO {w : World} {a b : Addr} {v : Value} (h : a ≠ b) : (w.setCell a v).cell? b = w.cell? b := by
  first | exact World.cell?_setCell_other _ _ _ _ h | exact World.cell?_setCell_other _ _ _ h
theorem setS {w : World} {a : Addr} {v u : Value} (h : w.cell? a = some u) : (w.setCell a v).cell? a = some v := World.cell?_setCell_same _ _ _ h
theorem setF {w : World} {a b : Addr} {v : Value} : (w.setCell a v).frozen? b = w.frozen? b := by
  first | exact World.frozen?_setCell | exact World.frozen?_setCell _ _ _ _ | exact World.frozen?_setCell _ _ _ | simp
/-- Nothing that was there has turned. -/
theorem below_trans {a b c : World} (h : Below a.heap.size a b) (k : Below b.heap.size b c) : Below a.heap.size a c :=
  h.trans (k.mono h.size)
theorem ret_int {k : IntKind} {a b : Int} (h : a = b) : Ending.returned (.int k a) = .returned (.int k b) := by rw [h]
theorem ret_bool {a b : Bool} (h : a = b) : Ending.returned (.bool a) = .returned (.bool b) := by rw [h]
end Go.Proofs.YtbkbokfegjodnaaDoor
namespace Go.Proofs.YtbkbokfegjodnaaDoor
open Go.RowKit Go.WideShapes Go.ChangeShapes
section
variable {H : Type} {enc : TypeId × Value → H} {P : Program}
/-- All readings stay where what they met stays. -/
theorem trodAll_stays (hl : laidOutB P = true) {W W' : World} {sp : Nat → Bool} : ∀ {ts : List TypeId} (_ : ∀ t ∈ ts, P.readableRec t = true ∧ t < P.types.size) {vs : List Value} {ds : List (DataW H)} {ps : List MemPlace}
    (_ : DataW.TrodAll enc P W 0 (fun _ => true) true ts vs ds ps) (_ : ∀ p ∈ ps, W.sameAt W' p) (_ : ∀ p ∈ ps, sp p.block = true), DataW.TrodAll enc P W' 0 sp true ts vs ds ps
  | [], _, vs, ds, ps, h, _, _ => by
    obtain ⟨rfl, rfl, rfl⟩ := trodAll_nil h
    exact trodAll_mk0
  | t :: ts, hr, vs, ds, ps, h, hs, hp => by
    obtain ⟨v, vs', d, ds', p, q, rfl, rfl, rfl, h1, h2⟩ := trodAll_cons h
    exact trodAll_cons_mk (WideElems.Trod_stays hl (hr t (by simp)).1 (hr t (by simp)).2 h1 (fun x hx => hs x (by simp [hx])) (fun x hx => hp x (by simp [hx])))
      (trodAll_stays hl (fun t' ht' => hr t' (by simp [ht'])) h2 (fun x hx => hs x (by simp [hx])) (fun x hx => hp x (by simp [hx])))
theorem law_post {f : Func} {s : ChangeSpec} {apart fresh handsOn again : Bool} {W W' : World} {args : Array Value} {ds gs : List (DataW H)} {before : List MemPlace} {B : TypeId}
    (hl : laidOutB P = true) (hr : (f.params.toList.all fun t => P.readableRec t && decide (t < P.types.size)) = true) (hvars : s.vars = []) (hB : f.resultTypes = #[B]) (hBu : P.underlying B = some .bool)
    (hW : DataW.Whole enc P f.params.toList s.vars apart W args.toList ds gs before) (hb : Below W.heap.size W W') (hfn : s.fn H (ds ++ gs) = { results := [.lit (.bool true)], args := ds }) :
    s.post enc P f apart fresh handsOn again W args (.bool true) W' := by
  have hlt : ∀ p ∈ before, p.block < W.heap.size := fun p hp => hW.lt p hp
  have hW0 := hW
  obtain ⟨p, q, hA, hV, rfl, hz, hn⟩ := hW
  rw [hvars] at hV
  obtain ⟨rfl, rfl⟩ := trodVars_none hV
  simp only [List.append_nil] at *
  have hr' : ∀ t ∈ f.params.toList, P.readableRec t = true ∧ t < P.types.size := fun t ht => by simpa using List.all_eq_true.1 hr t ht
  have hargs : ∀ sp : Nat → Bool, (∀ x ∈ p, sp x.block = true) → DataW.TrodAll enc P W' 0 sp true f.params.toList args.toList ds p := fun sp hsp =>
    trodAll_stays hl hr' hA (fun x hx => hb.same (hlt x hx)) hsp
  have hres : ∀ (b : Nat) (sp : Nat → Bool) (hd : Bool), DataW.TrodAll enc P W' b sp hd f.resultTypes.toList ((Value.bool true).resultList f.resultTypes.size) [.lit (.bool true)] [] := by
    intro b sp hd
    rw [hB]
    exact trodAll_mk1 (shut_bool hBu true)
  have hv : ∀ sp : Nat → Bool, DataW.TrodVars enc P W' sp s.vars [] [] := by intro sp; rw [hvars]; rfl
  have hok : ∀ (j : Nat) (t : TypeId) (r : Value), f.resultTypes[j]? = some t → ((Value.bool true).resultList f.resultTypes.size)[j]? = some r → Value.okWide P W' .any 0 t r := by
    rw [hB]
    intro j t r h1 h2
    match j with
    | 0 => simp [Value.resultList] at h1 h2; subst h1; subst h2; exact okWide_bool_mk hBu true
    | j + 1 => simp at h1
  have hold : ∀ x ∈ p, (fun b => decide (b < W.heap.size)) x.block = true := fun x hx => by simpa using hlt x hx
  refine ⟨ds, [], p, [], p, [], hW0, ?_, ?_, ?_, World.keptBut_mono (fun x hx => ⟨hx, .inr (.inl hx)⟩) (hb.frame (· ∈ p)), fun _ => ?_⟩
  · simp only [List.append_nil]; rw [hfn]; exact hres _ _ _
  · simp only [List.append_nil]; rw [hfn]; exact hargs _ hold
  · simp only [List.append_nil]; rw [hfn]; exact hv _
  · refine ⟨hok, _, _, ([] ++ p) ++ [], ⟨[] ++ p, [], trodAll_append (hargs _ (fun _ _ => rfl)) (hres _ _ _), hv _, rfl, ?_, ?_⟩, ?_⟩
    · intro b off hp
      have hin : MemPlace.cell b off ∈ p := by simpa using hp
      rw [hb.frozen (hlt _ hin)]
      exact hz b off hin
    · intro ha; simpa using hn ha
    · intro x hx _; simpa using hx
end
end Go.Proofs.YtbkbokfegjodnaaDoor
namespace Go.Proofs.YtbkbokfegjodnaaDoor
open Go.RowKit
/-- The types: a slice, its element with zero value, cells, bytes. -/
structure SlTy (P : Program) (S E : TypeId) (z : Value) (size bytes : Nat) : Prop where
  slice : P.underlying S = some (.slice E)
  info : (P.info? E).map (fun i => (i.zero, i.size, i.bytes)) = some (some z, size, bytes)
  cells : z.cells.size = size
  pos : 0 < size
/-- v, of n elements, owns the cells xs. -/
def Row (w : World) (E : TypeId) (size : Nat) (v : Value) (n : Nat) (xs : List Value) : Prop := w.ownsRow 0 E size v n xs
/-- From w to w' only the row r has turned, and what is new; the row is then r'. -/
structure Upd (w w' : World) (r r' : Option Nat) : Prop where
  grown : w.grownBy w' r
  own : r' = r ∨ ∃ g, r' = some g ∧ w.heap.size ≤ g
theorem Upd.refl (w : World) (r : Option Nat) : Upd w w r r := ⟨⟨rfl, rfl, rfl, Nat.le_refl _, fun _ _ _ => rfl⟩, .inl rfl⟩
theorem Upd.trans {a b c : World} {r s t : Option Nat} (h : Upd a b r s) (k : Upd b c s t) : Upd a c r t := by
  refine ⟨⟨k.grown.os.trans h.grown.os, k.grown.tape.trans h.grown.tape, k.grown.output.trans h.grown.output, Nat.le_trans h.grown.size k.grown.size, fun i hi hne => ?_⟩, ?_⟩
  · rw [← h.grown.block i hi hne]
    refine k.grown.block i (Nat.lt_of_lt_of_le hi h.grown.size) ?_
    rcases h.own with e | ⟨g, e, hg⟩
    · rw [e]; exact hne
    · rw [e]; intro he; injection he with he; omega
  · rcases k.own with e | ⟨g, e, hg⟩
    · rw [e]; exact h.own
    · exact .inr ⟨g, e, Nat.le_trans h.grown.size hg⟩
theorem Upd.of_below {w w' : World} (h : Below w.heap.size w w') (r : Option Nat) : Upd w w' r r :=
  ⟨⟨h.os, h.tape, h.output, h.size, fun k hk _ => h.block k hk⟩, .inl rfl⟩
/-- a block that is not the row stays -/
theorem Upd.block {w w' : World} {r r' : Option Nat} (h : Upd w w' r r') {k : Nat} (hk : k < w.heap.size) (hne : r ≠ some k) : w'.heap[k]? = w.heap[k]? :=
  h.grown.block k hk (fun e => hne e.symm)
theorem Upd.cell {w w' : World} {r r' : Option Nat} (h : Upd w w' r r') {p : Addr} {v : Value} (hc : w.cell? p = some v) (hne : r ≠ some p.block) : w'.cell? p = some v := by
  rw [World.cell?_of_block (w := w) (h.block (cell_lt hc) hne)]; exact hc
theorem Upd.frozen {w w' : World} {r r' : Option Nat} (h : Upd w w' r r') {p : Addr} (hp : p.block < w.heap.size) (hne : r ≠ some p.block) : w'.frozen? p = w.frozen? p :=
  World.frozen?_of_block (w := w) (h.block hp hne)
theorem Upd.below {w w' : World} {r r' : Option Nat} {B : Nat} (h : Upd w w' r r') (hB : B ≤ w.heap.size) (hr : ∀ g, r = some g → B ≤ g) : Below B w w' :=
  (Below.refl B w).grown h.grown hB hr
theorem Row.lt {w : World} {E size n : Nat} {v : Value} {xs : List Value} (h : Row w E size v n xs) {g : Nat} (hg : v.ownBlock = some g) : g < w.heap.size := (World.ownsRow.lt h g hg).2
theorem Row.kept {w w' : World} {E size n : Nat} {v : Value} {xs : List Value} {r r' : Option Nat} (h : Row w E size v n xs) (hu : Upd w w' r r') (hne : v.ownBlock = none ∨ v.ownBlock ≠ r) : Row w' E size v n xs :=
  World.ownsRow.kept h hu.grown hne
theorem Row.below {w w' : World} {E size n : Nat} {v : Value} {xs : List Value} (h : Row w E size v n xs) (hb : Below w.heap.size w w') : Row w' E size v n xs := by
  cases e : v.ownBlock with
  | none => exact World.ownsRow.kept h (Upd.of_below hb none).grown (.inl e)
  | some g => exact World.ownsRow.kept h (Upd.of_below hb none).grown (.inr (by rw [e]; simp))
theorem row_nil (w : World) (E size : Nat) : Row w E size (.slice none 0 0) 0 [] := World.ownsRow_nil _ _ _ _
section
variable {P : Program} {S E : TypeId} {z : Value} {size bytes : Nat} {w : World}
theorem run_app (ty : SlTy P S E z size bytes) (tt : TypeId) (v : Value) (n : Nat) (xs : List Value) (hown : Row w E size v n xs) (a : Addr) (m c : Nat) (news : List Value) (hl : news.length = m * size)
    (hnews : ∀ j u, news[j]? = some u → w.cell? (a.add j) = some u) (h1 : ∀ u ∈ news, u.oneCell' = true) (h63 : n + m ≤ maxLen) (hbytes : (n + m) * bytes ≤ 140737488355328) :
    ∃ v' w', (Builtin.append_ #[S, S] tt #[v, .slice (some a) m c]).run P w = .ok v' w' ∧ Row w' E size v' (n + m) (xs ++ news) ∧ Upd w w' v.ownBlock v'.ownBlock := by
  obtain ⟨i0, hi, hz0, hz1, hz2⟩ := info_parts ty.info
  obtain ⟨v', w', hr, h2, h3, h4⟩ := run_append_own (P := P) w 0 S tt E i0 z size bytes ty.slice hi hz0 hz1 hz2 ty.cells ty.pos v n xs hown a m c news hl hnews h1 h63 hbytes (Nat.zero_le _)
  refine ⟨v', w', hr, h2, h3, ?_⟩
  have hsz := hown.1
  rcases hown.2 with ⟨rfl, rfl⟩ | ⟨g, cap, cur, rfl, _, hg, hnc, hcm, hcs, htake⟩
  · by_cases hm : m = 0
    · left; rw [h4.2 ⟨rfl, hm⟩]
    · right
      have hr2 := run_append_nil (P := P) w S tt E i0 z ty.slice hi hz0 a m c news (by rw [hz1]; exact hl) hnews (by omega) (by unfold maxLen at h63; omega) (by rw [hz2]; have hb := hbytes; simp only [Nat.zero_add] at hb; omega)
      rw [hr] at hr2
      injection hr2 with e1 e2
      exact ⟨w.heap.size, by rw [e1]; rfl, Nat.le_refl _⟩
  · by_cases hroom : n + m ≤ cap
    · left
      have hfit : n * i0.size + news.length ≤ cur.size := by rw [hl, hcs, hz1, ← Nat.add_mul]; exact Nat.mul_le_mul_right _ hroom
      have hr2 := run_append_room (P := P) w S tt E i0 ty.slice hi g n cap cur hg a m c news (by rw [hz1]; exact hl) hnews h1 hroom hfit
      rw [hr] at hr2
      injection hr2 with e1 e2
      rw [e1]; rfl
    · right
      have holds : ∀ j u, xs[j]? = some u → w.cell? ((⟨g, 0, none⟩ : Addr).add j) = some u := World.ownsRow.cells hown (g := g) rfl
      have hr2 := run_append_grow (P := P) w S tt E i0 z ty.slice hi hz0 ⟨g, 0, none⟩ n cap xs (by rw [hz1]; exact hsz) holds a m c news (by rw [hz1]; exact hl) hnews (by omega) (by unfold maxLen at h63; omega) (growslice_fits (by omega) (by rw [hz2]; exact hbytes))
      rw [hr] at hr2
      injection hr2 with e1 e2
      exact ⟨w.heap.size, by rw [e1]; rfl, Nat.le_refl _⟩
theorem wpList_app {ops : Array Oper} {rest : List Oper} {o : Oper} {a : Act} {Q : Exit → Act → World → Prop} (ty : SlTy P S E z size bytes) (hgd : o.guard = none) (s x : Operand)
    (ho : o.op = .call { callee := .builtin .append, args := #[s, x], argTypes := #[S, S] })
    (v : Value) (n : Nat) (xs : List Value) (hs : a.eval s = v) (hown : Row w E size v n xs)
    (ad : Addr) (m c : Nat) (news : List Value) (hx : a.eval x = .slice (some ad) m c) (hl : news.length = m * size) (hnews : ∀ j u, news[j]? = some u → w.cell? (ad.add j) = some u) (h1 : ∀ u ∈ news, u.oneCell' = true)
    (h63 : n + m ≤ maxLen) (hbytes : (n + m) * bytes ≤ 140737488355328)
    (h : ∀ v' w', Row w' E size v' (n + m) (xs ++ news) → Upd w w' v.ownBlock v'.ownBlock → wpList P ops Q rest (a.put o.dst v') w') : wpList P ops Q (o :: rest) a w :=
  wpList_plain hgd fun _ hK => by
    obtain ⟨v', w', hr, h2, h3⟩ := run_app (w := w) ty o.type v n xs hown ad m c news hl hnews h1 h63 hbytes
    unfold Oper.wp execOp
    simp only [ho, resolve, invoke, builtin, Sem.run_bind, Sem.run_pure, Result.andThen_ok, List.map_toArray, List.map_cons, List.map_nil, hs, hx, hr]
    exact hK _ _ (h v' w' h2 h3)
end
end Go.Proofs.YtbkbokfegjodnaaDoor
namespace Go.Proofs.YtbkbokfegjodnaaDoor
open Go.RowKit
/-- An api.Value, whatever its kind. -/
inductive JV where
  | mk (kind int : Int) (text : ByteArray) (names : List ByteArray) (items : List JV)
def JV.kind : JV → Int | .mk k _ _ _ _ => k
def JV.int : JV → Int | .mk _ n _ _ _ => n
def JV.text : JV → ByteArray | .mk _ _ s _ _ => s
def JV.names : JV → List ByteArray | .mk _ _ _ l _ => l
def JV.items : JV → List JV | .mk _ _ _ _ l => l
mutual
/-- how many values stand in one -/
def JV.size : JV → Nat
  | .mk _ _ _ _ is => 1 + JV.sizes is
def JV.sizes : List JV → Nat
  | [] => 0
  | t :: r => JV.size t + JV.sizes r
end
theorem JV.size_pos (t : JV) : 1 ≤ t.size := by cases t; simp [JV.size]
theorem JV.size_le {t : JV} {l : List JV} (h : t ∈ l) : t.size ≤ JV.sizes l := by
  induction l with
  | nil => cases h
  | cons x r ih =>
    rcases List.mem_cons.1 h with rfl | h
    · simp [JV.sizes]
    · have := ih h; simp only [JV.sizes]; omega
theorem JV.size_item {t u : JV} (h : u ∈ t.items) : u.size < t.size := by
  cases t with
  | mk k n s ns is => have := JV.size_le (l := is) h; simp only [JV.size]; omega
theorem JV.len_le (l : List JV) : l.length ≤ JV.sizes l := by
  induction l with
  | nil => simp
  | cons x r ih => have := JV.size_pos x; simp only [JV.sizes, List.length_cons]; omega
/-- The cells xs lie at an address, in a block that is let. -/
def Lie (w : World) (b off : Nat) (xs : List Value) : Prop := ∀ (j : Nat) (v : Value), xs[j]? = some v → w.cell? ⟨b, off + j, none⟩ = some v
/-- A slice's texts. -/
def StrsAt (w : World) (ok : Nat → Prop) (a : Option Addr) (l : List ByteArray) : Prop :=
  l = [] ∨ ∃ b off, a = some ⟨b, off, none⟩ ∧ ok b ∧ Lie w b off (l.map Value.string)
mutual
/-- The five cells cs hold the tree t; every list of it lies in blocks that are let. -/
def Rep (w : World) (ok : Nat → Prop) : JV → List Value → Prop
  | .mk k n s ns is, cs => (-9223372036854775808 ≤ k ∧ k ≤ 9223372036854775807) ∧ (-9223372036854775808 ≤ n ∧ n ≤ 9223372036854775807) ∧ s.size ≤ maxLen ∧
    ∃ an cn ai ci, cs = [.int .i64 k, .int .i64 n, .string s, .slice an ns.length cn, .slice ai is.length ci] ∧ (ns.length ≤ cn ∧ cn ≤ maxLen) ∧ (is.length ≤ ci ∧ ci ≤ maxLen) ∧
      StrsAt w ok an ns ∧ (is = [] ∨ ∃ b off, ai = some ⟨b, off, none⟩ ∧ ok b ∧ RepAll w ok is b off)
def RepAll (w : World) (ok : Nat → Prop) : List JV → Nat → Nat → Prop
  | [], _, _ => True
  | t :: r, b, off => (∃ cs, Rep w ok t cs ∧ Lie w b off cs) ∧ RepAll w ok r b (off + 5)
end
/-- A slice's values. -/
def ItemsAt (w : World) (ok : Nat → Prop) (a : Option Addr) (l : List JV) : Prop :=
  l = [] ∨ ∃ b off, a = some ⟨b, off, none⟩ ∧ ok b ∧ RepAll w ok l b off
theorem rep_mk {w : World} {ok : Nat → Prop} {k n : Int} {s : ByteArray} {ns : List ByteArray} {is : List JV} {cs : List Value} :
    Rep w ok (.mk k n s ns is) cs ↔ (-9223372036854775808 ≤ k ∧ k ≤ 9223372036854775807) ∧ (-9223372036854775808 ≤ n ∧ n ≤ 9223372036854775807) ∧ s.size ≤ maxLen ∧
    ∃ an cn ai ci, cs = [.int .i64 k, .int .i64 n, .string s, .slice an ns.length cn, .slice ai is.length ci] ∧ (ns.length ≤ cn ∧ cn ≤ maxLen) ∧ (is.length ≤ ci ∧ ci ≤ maxLen) ∧
      StrsAt w ok an ns ∧ ItemsAt w ok ai is := by
  rw [Rep]; rfl
/-- What is held stays held where the let blocks stay as they are. -/
theorem Lie.kept {w w' : World} {b off : Nat} {xs : List Value} (h : Lie w b off xs) (hb : w'.heap[b]? = w.heap[b]?) : Lie w' b off xs := fun j v hj => by
  rw [World.cell?_of_block (w := w) hb]; exact h j v hj
theorem StrsAt.kept {w w' : World} {ok ok' : Nat → Prop} {a : Option Addr} {l : List ByteArray} (h : StrsAt w ok a l) (hk : ∀ b, b < w.heap.size → ok b → ok' b ∧ w'.heap[b]? = w.heap[b]?) : StrsAt w' ok' a l := by
  rcases h with rfl | ⟨b, off, rfl, hb, hl⟩
  · exact .inl rfl
  · cases l with
    | nil => exact .inl rfl
    | cons x r =>
      have hlt : b < w.heap.size := cell_lt (hl 0 (.string x) rfl)
      exact .inr ⟨b, off, rfl, (hk b hlt hb).1, hl.kept (hk b hlt hb).2⟩
mutual
theorem Rep.kept {w w' : World} {ok ok' : Nat → Prop} (hk : ∀ b, b < w.heap.size → ok b → ok' b ∧ w'.heap[b]? = w.heap[b]?) : ∀ (t : JV) (cs : List Value), Rep w ok t cs → Rep w' ok' t cs
  | .mk k n s ns is, cs, h => by
    rw [rep_mk] at h ⊢
    obtain ⟨h1, h2, h3, an, cn, ai, ci, rfl, h4, h5, h6, h7⟩ := h
    refine ⟨h1, h2, h3, an, cn, ai, ci, rfl, h4, h5, h6.kept hk, ?_⟩
    rcases h7 with rfl | ⟨b, off, rfl, hb, hl⟩
    · exact .inl rfl
    · cases is with
      | nil => exact .inl rfl
      | cons x r =>
        have hlt : b < w.heap.size := by
          rw [RepAll] at hl
          obtain ⟨⟨cs, hx, hcs⟩, _⟩ := hl
          cases x with
          | mk k n s ns is =>
            rw [rep_mk] at hx
            obtain ⟨_, _, _, an, cn, ai, ci, rfl, _⟩ := hx
            exact cell_lt (hcs 0 _ rfl)
        exact .inr ⟨b, off, rfl, (hk b hlt hb).1, RepAll.kept hk (x :: r) b off (hk b hlt hb).2 hl⟩
theorem RepAll.kept {w w' : World} {ok ok' : Nat → Prop} (hk : ∀ b, b < w.heap.size → ok b → ok' b ∧ w'.heap[b]? = w.heap[b]?) : ∀ (l : List JV) (b off : Nat), w'.heap[b]? = w.heap[b]? → RepAll w ok l b off → RepAll w' ok' l b off
  | [], _, _, _, _ => by rw [RepAll]; trivial
  | t :: r, b, off, hb, h => by
    rw [RepAll] at h ⊢
    obtain ⟨⟨cs, h1, h2⟩, h3⟩ := h
    exact ⟨⟨cs, Rep.kept hk t cs h1, h2.kept hb⟩, RepAll.kept hk r b (off + 5) hb h3⟩
end
theorem Rep.below {w w' : World} {ok : Nat → Prop} {t : JV} {cs : List Value} (h : Rep w ok t cs) (hb : Below w.heap.size w w') : Rep w' ok t cs :=
  Rep.kept (fun b hlt ho => ⟨ho, hb.block b hlt⟩) t cs h
theorem ItemsAt.kept {w w' : World} {ok ok' : Nat → Prop} {a : Option Addr} {l : List JV} (h : ItemsAt w ok a l) (hk : ∀ b, b < w.heap.size → ok b → ok' b ∧ w'.heap[b]? = w.heap[b]?) : ItemsAt w' ok' a l := by
  rcases h with rfl | ⟨b, off, rfl, hb, hl⟩
  · exact .inl rfl
  · cases l with
    | nil => exact .inl rfl
    | cons x r =>
      have hlt : b < w.heap.size := by
        rw [RepAll] at hl
        obtain ⟨⟨cs, hx, hcs⟩, _⟩ := hl
        cases x with
        | mk k n s ns is =>
          rw [rep_mk] at hx
          obtain ⟨_, _, _, an, cn, ai, ci, rfl, _⟩ := hx
          exact cell_lt (hcs 0 _ rfl)
      exact .inr ⟨b, off, rfl, (hk b hlt hb).1, RepAll.kept hk (x :: r) b off (hk b hlt hb).2 hl⟩
theorem ItemsAt.below {w w' : World} {ok : Nat → Prop} {a : Option Addr} {l : List JV} (h : ItemsAt w ok a l) (hb : Below w.heap.size w w') : ItemsAt w' ok a l :=
  h.kept (fun b hlt ho => ⟨ho, hb.block b hlt⟩)
theorem StrsAt.below {w w' : World} {ok : Nat → Prop} {a : Option Addr} {l : List ByteArray} (h : StrsAt w ok a l) (hb : Below w.heap.size w w') : StrsAt w' ok a l :=
  h.kept (fun b hlt ho => ⟨ho, hb.block b hlt⟩)
/-- The value number i. -/
theorem RepAll.at {w : World} {ok : Nat → Prop} : ∀ {l : List JV} {b off : Nat}, RepAll w ok l b off → ∀ (i : Nat) (h : i < l.length), ∃ cs, Rep w ok l[i] cs ∧ Lie w b (off + i * 5) cs
  | t :: r, b, off, h, 0, _ => by rw [RepAll] at h; simpa using h.1
  | t :: r, b, off, h, i + 1, hi => by
    rw [RepAll] at h
    obtain ⟨cs, h1, h2⟩ := RepAll.at h.2 i (by simpa using hi)
    exact ⟨cs, h1, by rw [show off + (i + 1) * 5 = off + 5 + i * 5 by omega]; exact h2⟩
end Go.Proofs.YtbkbokfegjodnaaDoor
namespace Go.Proofs.YtbkbokfegjodnaaDoor
open Go.RowKit
theorem add_none (g o j : Nat) : (⟨g, o, none⟩ : Addr).add j = ⟨g, o + j, none⟩ := by unfold Addr.add; split <;> simp_all
section
variable {P : Program} {S E : TypeId} {z : Value} {size bytes : Nat} {w : World}
theorem run_app_any (ty : SlTy P S E z size bytes) (tt : TypeId) (v : Value) (n : Nat) (xs : List Value) (hown : Row w E size v n xs) (A : Option Addr) (m c : Nat) (news : List Value) (hl : news.length = m * size)
    (hA : A = none → m = 0) (hnews : ∀ a, A = some a → ∀ j u, news[j]? = some u → w.cell? (a.add j) = some u) (h1 : ∀ u ∈ news, u.oneCell' = true) (h63 : n + m ≤ maxLen) (hbytes : (n + m) * bytes ≤ 140737488355328) :
    ∃ v' w', (Builtin.append_ #[S, S] tt #[v, .slice A m c]).run P w = .ok v' w' ∧ Row w' E size v' (n + m) (xs ++ news) ∧ Upd w w' v.ownBlock v'.ownBlock := by
  cases A with
  | some a => exact run_app ty tt v n xs hown a m c news hl (hnews a rfl) h1 h63 hbytes
  | none =>
    obtain rfl := hA rfl
    obtain rfl : news = [] := List.eq_nil_of_length_eq_zero (by omega)
    obtain ⟨i0, hi, hz0, hz1, hz2⟩ := info_parts ty.info
    refine ⟨v, w, ?_, by simpa using hown, Upd.refl _ _⟩
    rcases hown.2 with ⟨rfl, rfl⟩ | ⟨g, cap, cur, rfl, _, _, hnc, _⟩
    · simp [Builtin.append_, run_underlying ty.slice, sizeOf, typeInfo, hi, Builtin.lenOf, Builtin.firstCells]
    · simp [Builtin.append_, run_underlying ty.slice, sizeOf, typeInfo, hi, Builtin.lenOf, Builtin.firstCells, hnc, storeCells]
theorem wp_app {o : Oper} {a : Act} {K : Act → World → Prop} {Q : Exit → Act → World → Prop} (ty : SlTy P S E z size bytes) (s x : Operand)
    (ho : o.op = .call { callee := .builtin .append, args := #[s, x], argTypes := #[S, S] })
    (v : Value) (n : Nat) (xs : List Value) (hs : a.eval s = v) (hown : Row w E size v n xs)
    (A : Option Addr) (m c : Nat) (news : List Value) (hx : a.eval x = .slice A m c) (hl : news.length = m * size)
    (hA : A = none → m = 0) (hnews : ∀ a, A = some a → ∀ j u, news[j]? = some u → w.cell? (a.add j) = some u) (h1 : ∀ u ∈ news, u.oneCell' = true)
    (h63 : n + m ≤ maxLen) (hbytes : (n + m) * bytes ≤ 140737488355328)
    (h : ∀ v' w', Row w' E size v' (n + m) (xs ++ news) → Upd w w' v.ownBlock v'.ownBlock → K (a.put o.dst v') w') : o.wp P a w K Q := by
  obtain ⟨v', w', hr, h2, h3⟩ := run_app_any (w := w) ty o.type v n xs hown A m c news hl hA hnews h1 h63 hbytes
  unfold Oper.wp execOp
  simp only [ho, resolve, invoke, builtin, Sem.run_bind, Sem.run_pure, Result.andThen_ok, List.map_toArray, List.map_cons, List.map_nil, hs, hx, hr]
  exact h v' w' h2 h3
/-- at a step of a region that draws -/
theorem step_app {ops : Array Oper} {o : Oper} {a : Act} {K : Act → World → Prop} {Q : Exit → Act → World → Prop} {F : Prop} (ty : SlTy P S E z size bytes) (hgd : o.guard = none) (s x : Operand)
    (ho : o.op = .call { callee := .builtin .append, args := #[s, x], argTypes := #[S, S] })
    (v : Value) (n : Nat) (xs : List Value) (hs : a.eval s = v) (hown : Row w E size v n xs)
    (A : Option Addr) (m c : Nat) (news : List Value) (hx : a.eval x = .slice A m c) (hl : news.length = m * size)
    (hA : A = none → m = 0) (hnews : ∀ a, A = some a → ∀ j u, news[j]? = some u → w.cell? (a.add j) = some u) (h1 : ∀ u ∈ news, u.oneCell' = true)
    (h63 : n + m ≤ maxLen) (hbytes : (n + m) * bytes ≤ 140737488355328)
    (h : ∀ v' w', Row w' E size v' (n + m) (xs ++ news) → Upd w w' v.ownBlock v'.ownBlock → K (a.put o.dst v') w') :
    if Region.wanted o (yielded ops a.tmps) = true then Oper.wp P o a w K Q else F := by
  have hw : Region.wanted o (yielded ops a.tmps) = true := by simp [Region.wanted, hgd]
  rw [if_pos hw]
  exact wp_app ty s x ho v n xs hs hown A m c news hx hl hA hnews h1 h63 hbytes h
end
/-- What a row's slice looks like, and where its cells lie. -/
theorem Row.form {w : World} {E : TypeId} {size : Nat} {v : Value} {n : Nat} {xs : List Value} (h : Row w E size v n xs) :
    ∃ a cap, v = .slice a n cap ∧ n ≤ cap ∧ cap ≤ maxLen ∧ ((a = none ∧ n = 0 ∧ xs = []) ∨ ∃ g, a = some ⟨g, 0, none⟩ ∧ v.ownBlock = some g ∧ g < w.heap.size ∧ Lie w g 0 xs) := by
  have h0 := h
  rcases h.2 with ⟨rfl, rfl⟩ | ⟨g, cap, cur, rfl, _, hg, hnc, hcm, hcs, htake⟩
  · exact ⟨none, 0, rfl, Nat.le_refl _, Nat.zero_le _, .inl ⟨rfl, rfl, List.eq_nil_of_length_eq_zero (by rw [h.1]; simp)⟩⟩
  · refine ⟨_, cap, rfl, hnc, hcm, .inr ⟨g, rfl, rfl, ?_, fun j u hj => ?_⟩⟩
    · rcases Nat.lt_or_ge g w.heap.size with hlt | hge
      · exact hlt
      · rw [Array.getElem?_eq_none hge] at hg; cases hg
    · have := World.ownsRow.cells h0 (g := g) rfl j u hj
      rwa [add_none] at this
/-- Trees whose cells stand behind one another in xs. -/
def Reps (w : World) (ok : Nat → Prop) : List JV → List Value → Prop
  | [], xs => xs = []
  | t :: r, xs => ∃ cs ys, xs = cs ++ ys ∧ Rep w ok t cs ∧ Reps w ok r ys
theorem Rep.len {w : World} {ok : Nat → Prop} {t : JV} {cs : List Value} (h : Rep w ok t cs) : cs.length = 5 := by
  cases t with
  | mk k n s ns is =>
    rw [rep_mk] at h
    obtain ⟨_, _, _, _, _, _, _, rfl, _⟩ := h
    rfl
theorem Reps.snoc {w : World} {ok : Nat → Prop} {t : JV} {cs : List Value} (ht : Rep w ok t cs) : ∀ {l : List JV} {xs : List Value}, Reps w ok l xs → Reps w ok (l ++ [t]) (xs ++ cs)
  | [], xs, h => by rw [Reps] at h; subst h; exact ⟨cs, [], by simp, ht, rfl⟩
  | u :: r, xs, h => by
    obtain ⟨c, ys, rfl, h1, h2⟩ := h
    exact ⟨c, ys ++ cs, by simp, h1, Reps.snoc ht h2⟩
theorem Reps.kept {w w' : World} {ok ok' : Nat → Prop} (hk : ∀ b, b < w.heap.size → ok b → ok' b ∧ w'.heap[b]? = w.heap[b]?) : ∀ {l : List JV} {xs : List Value}, Reps w ok l xs → Reps w' ok' l xs
  | [], _, h => h
  | t :: _, _, ⟨c, ys, e, h1, h2⟩ => ⟨c, ys, e, Rep.kept hk t c h1, Reps.kept hk h2⟩
theorem Reps.lie {w : World} {ok : Nat → Prop} {b : Nat} : ∀ {l : List JV} {xs : List Value} {off : Nat}, Reps w ok l xs → Lie w b off xs → RepAll w ok l b off
  | [], _, _, _, _ => by rw [RepAll]; trivial
  | t :: r, xs, off, ⟨c, ys, e, h1, h2⟩, hl => by
    subst e
    rw [RepAll]
    refine ⟨⟨c, h1, fun j v hj => hl j v ?_⟩, Reps.lie h2 fun j v hj => ?_⟩
    · rw [List.getElem?_append_left (by have := (List.getElem?_eq_some_iff.1 hj).1; omega)]; exact hj
    · have := hl (5 + j) v (by rw [List.getElem?_append_right (by rw [h1.len]; omega), h1.len]; simpa using hj)
      rwa [← Nat.add_assoc] at this
/-- A row of trees is a slice of them. -/
theorem Row.items {w : World} {E : TypeId} {v : Value} {xs : List Value} {l : List JV} {ok : Nat → Prop} (h : Row w E 5 v l.length xs) (hr : Reps w ok l xs) (ho : ∀ g, v.ownBlock = some g → ok g) :
    ∃ a cap, v = .slice a l.length cap ∧ (l.length ≤ cap ∧ cap ≤ maxLen) ∧ ItemsAt w ok a l := by
  obtain ⟨a, cap, rfl, h1, h2, h3⟩ := h.form
  refine ⟨a, cap, rfl, ⟨h1, h2⟩, ?_⟩
  rcases h3 with ⟨rfl, h3, _⟩ | ⟨g, rfl, h3, _, h4⟩
  · exact .inl (List.eq_nil_of_length_eq_zero h3)
  · exact .inr ⟨g, 0, rfl, ho g h3, hr.lie h4⟩
/-- A row of strings is a slice of them. -/
theorem Row.strs {w : World} {E : TypeId} {v : Value} {l : List ByteArray} {ok : Nat → Prop} (h : Row w E 1 v l.length (l.map Value.string)) (ho : ∀ g, v.ownBlock = some g → ok g) :
    ∃ a cap, v = .slice a l.length cap ∧ (l.length ≤ cap ∧ cap ≤ maxLen) ∧ StrsAt w ok a l := by
  obtain ⟨a, cap, rfl, h1, h2, h3⟩ := h.form
  refine ⟨a, cap, rfl, ⟨h1, h2⟩, ?_⟩
  rcases h3 with ⟨rfl, h3, _⟩ | ⟨g, rfl, h3, _, h4⟩
  · exact .inl (List.eq_nil_of_length_eq_zero h3)
  · exact .inr ⟨g, 0, rfl, ho g h3, h4⟩
/-- A held tree's cells. -/
theorem Rep.form {w : World} {ok : Nat → Prop} {t : JV} {cs : List Value} (h : Rep w ok t cs) :
    ∃ an cn ai ci, cs = [.int .i64 t.kind, .int .i64 t.int, .string t.text, .slice an t.names.length cn, .slice ai t.items.length ci] := by
  cases t with
  | mk k n s ns is =>
    rw [rep_mk] at h
    obtain ⟨_, _, _, an, cn, ai, ci, rfl, _⟩ := h
    exact ⟨an, cn, ai, ci, rfl⟩
/-- A slice of texts can be appended. -/
theorem StrsAt.news {w : World} {ok : Nat → Prop} {a : Option Addr} {l : List ByteArray} (h : StrsAt w ok a l) : ∀ p, a = some p → ∀ j u, (l.map Value.string)[j]? = some u → w.cell? (p.add j) = some u := by
  intro p hp j u hj
  rcases h with rfl | ⟨b, off, rfl, _, hl⟩
  · simp at hj
  · injection hp with hp
    subst hp
    rw [add_none]
    exact hl j u hj
end Go.Proofs.YtbkbokfegjodnaaDoor
namespace Go.Proofs.YtbkbokfegjodnaaDoor
def strsBulk : List ByteArray → Nat
  | [] => 0
  | s :: r => s.size + 1 + strsBulk r
mutual
/-- values and letters -/
def JV.bulk : JV → Nat
  | .mk _ _ s ns is => 1 + s.size + strsBulk ns + JV.bulks is
def JV.bulks : List JV → Nat
  | [] => 0
  | t :: r => JV.bulk t + JV.bulks r
end
theorem strs_len (l : List ByteArray) : l.length ≤ strsBulk l := by
  induction l with
  | nil => simp
  | cons x r ih => simp only [strsBulk, List.length_cons]; omega
theorem JV.bulk_le {t : JV} {l : List JV} (h : t ∈ l) : t.bulk ≤ JV.bulks l := by
  induction l with
  | nil => cases h
  | cons x r ih =>
    rcases List.mem_cons.1 h with rfl | h
    · simp [JV.bulks]
    · have := ih h; simp only [JV.bulks]; omega
theorem JV.bulk_item {t u : JV} (h : u ∈ t.items) : u.bulk ≤ t.bulk := by
  cases t with
  | mk k n s ns is => have := JV.bulk_le (l := is) h; simp only [JV.bulk]; omega
mutual
/-- how many values and names, counted as far as a most -/
def parts : JV → Int → Int
  | .mk _ _ _ ns is, most => partsL is (1 + (ns.length : Int)) most
def partsL : List JV → Int → Int → Int
  | [], n, _ => n
  | t :: r, n, most => if n ≤ most then partsL r (n + parts t (most - n)) most else n
end
mutual
theorem parts_bd : ∀ (t : JV) (most : Int), 1 ≤ parts t most ∧ parts t most ≤ t.bulk
  | .mk _ _ s ns is, most => by
    have h := partsL_bd is (1 + (ns.length : Int)) most (by omega)
    have := strs_len ns
    rw [parts, JV.bulk]
    omega
theorem partsL_bd : ∀ (l : List JV) (n most : Int), 0 ≤ n → n ≤ partsL l n most ∧ partsL l n most ≤ n + JV.bulks l
  | [], n, most, _ => by rw [partsL, JV.bulks]; omega
  | t :: r, n, most, h => by
    rw [partsL, JV.bulks]
    split
    · have h1 := parts_bd t (most - n)
      have h2 := partsL_bd r (n + parts t (most - n)) most (by omega)
      omega
    · omega
end
mutual
/-- are two trees the same? -/
def same : JV → JV → Bool
  | .mk k n s ns is, .mk k' n' s' ns' is' => k == k' && n == n' && s.data.toList == s'.data.toList && ns.map (·.data.toList) == ns'.map (·.data.toList) && sameL is is'
def sameL : List JV → List JV → Bool
  | [], [] => true
  | x :: a, y :: b => same x y && sameL a b
  | _, _ => false
end
mutual
theorem same_self : ∀ t : JV, same t t = true
  | .mk k n s ns is => by rw [same, sameL_self is]; simp
theorem sameL_self : ∀ l : List JV, sameL l l = true
  | [] => rfl
  | t :: r => by rw [sameL, same_self t, sameL_self r]; rfl
end
mutual
theorem same_eq : ∀ t u : JV, same t u = true → t = u
  | .mk k n s ns is, .mk k' n' s' ns' is', h => by
    rw [same] at h
    simp only [Bool.and_eq_true, beq_iff_eq] at h
    obtain ⟨⟨⟨⟨rfl, rfl⟩, h1⟩, h2⟩, h3⟩ := h
    obtain rfl : s = s' := ByteArray.ext (Array.ext' h1)
    obtain rfl : ns = ns' := by
      have hinj : ∀ (a b : List ByteArray), a.map (·.data.toList) = b.map (·.data.toList) → a = b := by
        intro a
        induction a with
        | nil => intro b hb; cases b <;> simp_all
        | cons x a ih =>
          intro b hb
          cases b with
          | nil => simp at hb
          | cons y b =>
            simp only [List.map_cons, List.cons.injEq] at hb
            rw [ih b hb.2, show x = y from ByteArray.ext (Array.ext' hb.1)]
      exact hinj _ _ h2
    rw [sameL_eq is is' h3]
theorem sameL_eq : ∀ a b : List JV, sameL a b = true → a = b
  | [], [], _ => rfl
  | x :: a, y :: b, h => by
    rw [sameL, Bool.and_eq_true] at h
    rw [same_eq x y h.1, sameL_eq a b h.2]
  | [], _ :: _, h => by rw [sameL] at h; exact absurd h (by decide); all_goals (intros; contradiction)
  | _ :: _, [], h => by rw [sameL] at h; exact absurd h (by decide); all_goals (intros; contradiction)
end
theorem same_iff (t u : JV) : same t u = true ↔ t = u := ⟨same_eq t u, fun h => by rw [h]; exact same_self u⟩
end Go.Proofs.YtbkbokfegjodnaaDoor
namespace Go.Proofs.YtbkbokfegjodnaaDoor
open Go.RowKit
def byteV (c : UInt8) : Value := .int .u8 (c.toNat : Int)
/-- The types: a slice of bytes, a byte. -/
structure ByteTy (P : Program) (S E : TypeId) : Prop where
  slice : P.underlying S = some (.slice E)
  byte : P.underlying E = some (.int .u8)
  info : (P.info? E).map (fun i => (i.zero, i.size, i.bytes)) = some (some (.int .u8 0), 1, 1)
/-- v owns the bytes l, in blocks from base on. -/
def Buf (w : World) (base : Nat) (E : TypeId) (v : Value) (l : List UInt8) : Prop := w.ownsRow base E 1 v l.length (l.map byteV)
theorem buf_nil (w : World) (base : Nat) (E : TypeId) : Buf w base E (.slice none 0 0) [] := World.ownsRow_nil _ _ _ _
theorem buf_size {w w' : World} {base : Nat} {E : TypeId} {v : Value} {l : List UInt8} (h : Buf w base E v l) (hw : w'.heap = w.heap) : Buf w' base E v l := by
  unfold Buf World.ownsRow at *; rw [hw]; exact h
theorem buf_alloc {w : World} {base : Nat} {E : TypeId} {v : Value} {l : List UInt8} (h : Buf w base E v l) (o : Obj) : Buf (w.alloc o) base E v l := World.ownsRow.alloc h o
theorem below_of_grownBy {w w' : World} {base : Nat} {row : Option Nat} (hg : w.grownBy w' row) (hb : base ≤ w.heap.size) (hr : ∀ k, row = some k → base ≤ k) : Below base w w' :=
  (Below.refl base w).grown hg hb hr
section
variable {P : Program} {S E : TypeId} {w : World}
theorem buf_lit {base : Nat} (hb : base ≤ w.heap.size) (l : List UInt8) (hl : l.length ≤ maxLen) : Buf (w.alloc (.cells (l.map byteV).toArray E)) base E (.slice (some ⟨w.heap.size, 0, none⟩) l.length l.length) l := by
  refine ⟨by simp, .inr ⟨w.heap.size, l.length, (l.map byteV).toArray, rfl, hb, ?_, Nat.le_refl _, hl, by simp, by simp [List.take_of_length_le]⟩⟩
  show (w.heap.push _)[w.heap.size]? = _
  simp
theorem wpList_push {ops : Array Oper} {rest : List Oper} {o : Oper} {a : Act} {Q : Exit → Act → World → Prop} (ty : ByteTy P S E) (hgd : o.guard = none) (s x : Operand)
    (ho : o.op = .call { callee := .builtin .append, args := #[s, x], argTypes := #[S, S] })
    (base : Nat) (v : Value) (l : List UInt8) (hs : a.eval s = v) (hown : Buf w base E v l) (g : Nat) (c : UInt8)
    (hx : a.eval x = .slice (some ⟨g, 0, none⟩) 1 1) (hnew : w.cell? ⟨g, 0, none⟩ = some (byteV c)) (hlen : l.length < 140737488355328) (hbase : base ≤ w.heap.size)
    (h : ∀ v' w', Buf w' base E v' (l ++ [c]) → Below base w w' → wpList P ops Q rest (a.put o.dst v') w') : wpList P ops Q (o :: rest) a w := by
  obtain ⟨i0, hi, hz0, hz1, hz2⟩ := info_parts ty.info
  refine wpList_append_own w hgd s x S ho base E i0 (.int .u8 0) 1 1 ty.slice hi hz0 hz1 hz2 rfl (by decide) v l.length (l.map byteV) hs hown ⟨g, 0, none⟩ 1 1 [byteV c] hx rfl ?_ ?_ ?_ ?_ hbase ?_
  · intro j u hj
    match j, hj with
    | 0, hj => simp at hj; subst hj; simpa [Addr.add] using hnew
  · intro u hu; simp at hu; subst hu; rfl
  · unfold maxLen; omega
  · omega
  · intro v' w' h2 h3 _
    refine h v' w' ?_ (below_of_grownBy h3 hbase fun k hk => (hown.lt k hk).1)
    unfold Buf
    simpa using h2
theorem run_buf_string (ty : ByteTy P S E) {base : Nat} {v : Value} {l : List UInt8} (h : Buf w base E v l) (dst : TypeId) (hd : P.underlying dst = some .string) :
    (convert S dst v).run P w = .ok (.string ⟨l.toArray⟩) w := by
  obtain ⟨h1, ⟨rfl, h2⟩ | ⟨g, cap, cur, rfl, hg, hh, hn, hc, hs, ht⟩⟩ := h
  · obtain rfl : l = [] := List.eq_nil_of_length_eq_zero h2
    exact run_convert_bytes_nil w S E ty.slice ty.byte 0 0 dst hd
  · refine run_convert_bytes_back w S dst E ⟨g, 0, none⟩ cap l ty.slice ty.byte hd ?_
    intro j hj
    have e : (⟨g, 0, none⟩ : Addr).add j = ⟨g, j, none⟩ := by unfold Addr.add; split <;> simp_all
    rw [e]
    have hj' : cur.toList[j]? = some (byteV l[j]) := by
      have : (cur.toList.take (l.length * 1))[j]? = some (byteV l[j]) := by rw [ht]; simp [hj]
      rw [List.getElem?_take] at this
      split at this
      · exact this
      · cases this
    simp only [World.cell?, hh]
    simpa [byteV] using hj'
end
end Go.Proofs.YtbkbokfegjodnaaDoor
namespace Go.Proofs.YtbkbokfegjodnaaDoor
open Go.RowKit
theorem lie5 {w : World} {b off : Nat} {c0 c1 c2 c3 c4 : Value} (h : Lie w b off [c0, c1, c2, c3, c4]) :
    w.cell? ⟨b, off, none⟩ = some c0 ∧ w.cell? ⟨b, off + 1, none⟩ = some c1 ∧ w.cell? ⟨b, off + 2, none⟩ = some c2 ∧ w.cell? ⟨b, off + 3, none⟩ = some c3 ∧ w.cell? ⟨b, off + 4, none⟩ = some c4 :=
  ⟨h 0 _ rfl, h 1 _ rfl, h 2 _ rfl, h 3 _ rfl, h 4 _ rfl⟩
theorem cells4 (w : World) (c0 c1 c2 c3 c4 : Value) (T : TypeId) : (w.alloc (.cells #[c0, c1, c2, c3, c4] T)).cell? ⟨w.heap.size, 3, none⟩ = some c3 ∧ (w.alloc (.cells #[c0, c1, c2, c3, c4] T)).cell? ⟨w.heap.size, 4, none⟩ = some c4 := by
  refine ⟨by simp [go_sem], by simp [go_sem]⟩
def PartsSaid (m : Nat) : Prop := ∀ (t : JV), t.size ≤ m → ∀ (cs : List Value) (w : World) (ok : Nat → Prop) (most : Int), Rep w ok t cs → t.bulk ≤ 1099511627776 → 0 ≤ most → most ≤ 1099511627776 →
    Calls Tryd.prog 48 #[.agg cs.toArray, .int .i64 most] w fun e w' => e = .returned (.int .i64 (parts t most)) ∧ Below w.heap.size w w'
set_option maxHeartbeats 2000000 in
theorem parts_step (m : Nat) (ih : PartsSaid m) : PartsSaid (m + 1) := by
  intro t hm cs w ok most hr hbk hm0 hm1
  cases t with
  | mk k n s ns is =>
  rw [rep_mk] at hr
  obtain ⟨_, _, _, an, cn, ai, ci, rfl, hcn, hci, _, hit⟩ := hr
  unfold maxLen at hcn hci
  have hns := strs_len ns
  have hisl := JV.len_le is
  rw [JV.bulk] at hbk
  have IH := Lib.hid ih
  clear ih
  have HP := Lib.hid (show parts (.mk k n s ns is) most = partsL is (1 + (ns.length : Int)) most by rw [parts])
  have hb0 : Below w.heap.size w (w.alloc (.cells #[.int .i64 k, .int .i64 n, .string s, .slice an ns.length cn, .slice ai is.length ci] 28)) := (Below.refl _ _).alloc (Nat.le_refl _) _
  obtain ⟨hc3, hc4⟩ := cells4 w (.int .i64 k) (.int .i64 n) (.string s) (.slice an ns.length cn) (.slice ai is.length ci) 28
  have hit1 := hit.below hb0
  go_enter Tryd.func48, Tryd.ntmps48
  go_wp2
  go_loopw [5, 6] (fun v i wr => ∃ j : Nat, j ≤ is.length ∧ i = .int .i64 j ∧ ∃ q : Int, v = .int .i64 q ∧ Hid (partsL is (1 + (ns.length : Int)) most = partsL (is.drop j) q most) ∧ 0 ≤ q ∧ q + JV.bulks (is.drop j) ≤ 1 + ns.length + JV.bulks is ∧ Below (w.alloc (.cells #[.int .i64 k, .int .i64 n, .string s, .slice an ns.length cn, .slice ai is.length ci] 28)).heap.size (w.alloc (.cells #[.int .i64 k, .int .i64 n, .string s, .slice an ns.length cn, .slice ai is.length ci] 28)) wr)
    (fun _ i _ => is.length - (intOf i).toNat)
  case atStart => exact ⟨0, by omega, rfl, _, rfl, rfl, by omega, by simp, Below.refl _ _⟩
  case round =>
    obtain ⟨j, hj, rfl, q, rfl, HQ, hq0, hq1, hbl⟩ := hrel
    have k4 := cell_below hbl hc4
    have hit2 := hit1.below hbl
    by_cases hlt : j < is.length
    · have hdrop : is.drop j = is[j] :: is.drop (j + 1) := List.drop_eq_getElem_cons hlt
      rw [hdrop] at HQ hq1
      rw [JV.bulks] at hq1
      rcases hit2 with rfl | ⟨b, off, rfl, _, hall⟩
      · simp at hlt
      obtain ⟨cs, hrj, hlj⟩ := hall.at j hlt
      have hlt' : j + 1 ≤ is.length := hlt
      have hszj : is[j].size ≤ m := by have h1 := JV.size_le (List.getElem_mem hlt); rw [JV.size] at hm; omega
      have hbj : is[j].bulk ≤ 1099511627776 := by have h1 := JV.bulk_le (List.getElem_mem hlt); omega
      by_cases hqm : q ≤ most
      · have hpb := parts_bd is[j] (most - q)
        have hcall := IH.out is[j] hszj cs wr ok (most - q) hrj hbj (by omega) (by omega)
        have HQ2 : Hid (partsL is (1 + (ns.length : Int)) most = partsL (is.drop (j + 1)) (q + parts is[j] (most - q)) most) := Lib.hid (by rw [HQ.out, partsL, if_pos hqm])
        generalize is[j] = x at *
        cases x with
        | mk k' n' s' ns' is' =>
        rw [rep_mk] at hrj
        obtain ⟨_, _, _, an', cn', ai', ci', rfl, _⟩ := hrj
        obtain ⟨l0, l1, l2, l3, l4⟩ := lie5 hlj
        generalize parts (.mk k' n' s' ns' is') (most - q) = pp at *
        have HD := Lib.hid hdrop
        clear HQ hdrop hall
        have HLT := Lib.hid hlt'
        go_wp2_with fail
        refine hcall.mono ?_; rintro e w1 ⟨rfl, hb1⟩
        clear hcall l0 l1 l2 l3 l4 hlj
        have hbl1 := hbl.trans (hb1.mono hbl.size)
        clear hb1 hbl k4
        go_wp2
        go_roundw
        case rel => exact ⟨j + 1, HLT.out, by go_num, _, rfl, HQ2, by omega, by omega, hbl1⟩
        case measure => have := HLT.out; simp [intOf]; omega
      · have HQ2 : Hid (partsL is (1 + (ns.length : Int)) most = q) := Lib.hid (by rw [HQ.out, partsL, if_neg hqm])
        have hd1 : decide (q ≤ most) = false := by simpa using hqm
        clear HQ hdrop hall hrj hlj hbj hszj
        go_wp2
        go_ret
        exact ⟨by rw [HP.out, HQ2.out]; rfl, below_trans hb0 hbl⟩
    · obtain rfl : j = is.length := by omega
      have HQ2 : Hid (partsL is (1 + (ns.length : Int)) most = q) := Lib.hid (by rw [HQ.out, List.drop_of_length_le (Nat.le_refl _), partsL])
      clear HQ
      go_wp2
      go_ret
      exact ⟨by rw [HP.out, HQ2.out]; rfl, below_trans hb0 hbl⟩
theorem parts_all (m : Nat) : PartsSaid m := by
  induction m with
  | zero => intro t hm; have := JV.size_pos t; omega
  | succ m ih => exact parts_step m ih
theorem parts_c (t : JV) (cs : List Value) (w : World) (ok : Nat → Prop) (most : Int) (hr : Rep w ok t cs) (hb : t.bulk ≤ 1099511627776) (h0 : 0 ≤ most) (h1 : most ≤ 1099511627776) :
    Calls Tryd.prog 48 #[.agg cs.toArray, .int .i64 most] w fun e w' => e = .returned (.int .i64 (parts t most)) ∧ Below w.heap.size w w' :=
  parts_all t.size t (Nat.le_refl _) cs w ok most hr hb h0 h1
/-- is a tree not gone through? -/
def largeB (t : JV) : Bool := decide (10000 < parts t 10000)
set_option maxHeartbeats 400000 in
theorem large_c (k n : Int) (s : ByteArray) (ns : List ByteArray) (is : List JV) (cs : List Value) (w : World) (ok : Nat → Prop) (hr : Rep w ok (.mk k n s ns is) cs) (hb : (JV.mk k n s ns is).bulk ≤ 1099511627776) :
    Calls Tryd.prog 19 #[.agg cs.toArray] w fun e w' => e = .returned (.bool (largeB (.mk k n s ns is))) ∧ Below w.heap.size w w' := by
  have hr0 := hr
  rw [rep_mk] at hr
  obtain ⟨_, _, _, an, cn, ai, ci, rfl, _⟩ := hr
  have hb0 : Below w.heap.size w (w.alloc (.cells #[.int .i64 k, .int .i64 n, .string s, .slice an ns.length cn, .slice ai is.length ci] 28)) := (Below.refl _ _).alloc (Nat.le_refl _) _
  have hc := parts_c _ _ _ ok 10000 (hr0.below hb0) hb (by omega) (by omega)
  have HL := Lib.hid (show largeB (.mk k n s ns is) = decide (10000 < parts (.mk k n s ns is) 10000) from rfl)
  generalize parts (.mk k n s ns is) 10000 = pp at *
  go_enter Tryd.func19, Tryd.ntmps19
  go_wp2_with fail
  refine hc.mono ?_; rintro e w1 ⟨rfl, hb1⟩
  go_wp2
  go_ret
  exact ⟨by rw [HL.out]; rfl, below_trans hb0 hb1⟩
end Go.Proofs.YtbkbokfegjodnaaDoor
namespace Go.Proofs.YtbkbokfegjodnaaDoor
open Go.RowKit
theorem strTy : SlTy Tryd.prog 25 9 (.string ByteArray.empty) 1 16 := ⟨by kernel_rfl, by kernel_rfl, by kernel_rfl, by decide⟩
theorem valTy : SlTy Tryd.prog 26 28 (.agg #[.int .i64 0, .int .i64 0, .string ByteArray.empty, .slice none 0 0, .slice none 0 0]) 5 80 := ⟨by kernel_rfl, by kernel_rfl, by kernel_rfl, by decide⟩
theorem cells5' (w : World) (c0 c1 c2 c3 c4 : Value) (T : TypeId) : (w.alloc (.cells #[c0, c1, c2, c3, c4] T)).cell? ⟨w.heap.size, 0, none⟩ = some c0 ∧ (w.alloc (.cells #[c0, c1, c2, c3, c4] T)).cell? ⟨w.heap.size, 1, none⟩ = some c1 ∧
    (w.alloc (.cells #[c0, c1, c2, c3, c4] T)).cell? ⟨w.heap.size, 2, none⟩ = some c2 ∧ (w.alloc (.cells #[c0, c1, c2, c3, c4] T)).cell? ⟨w.heap.size, 3, none⟩ = some c3 ∧ (w.alloc (.cells #[c0, c1, c2, c3, c4] T)).cell? ⟨w.heap.size, 4, none⟩ = some c4 := by
  refine ⟨by simp [go_sem], by simp [go_sem], by simp [go_sem], by simp [go_sem], by simp [go_sem]⟩
theorem rowMade {W : World} {E : TypeId} {size B : Nat} (hB : W.heap.size = B) : Row (W.alloc (.cells #[] E)).drew E size (.slice (some ⟨B, 0, none⟩) 0 0) 0 [] := by
  subst hB
  exact World.ownsRow_made W #[] 0 (Nat.zero_le _) (Nat.zero_le _) (by simp)
theorem rowMade2 {W : World} {o : Obj} {E : TypeId} {size B : Nat} (hB : W.heap.size = B) : Row ((W.alloc (.cells #[] E)).alloc o).drew E size (.slice (some ⟨B, 0, none⟩) 0 0) 0 [] :=
  Row.below (rowMade hB) ((Below.refl _ _).alloc (Nat.le_refl _) _)
theorem one_strs (l : List ByteArray) : ∀ u ∈ l.map Value.string, u.oneCell' = true := by
  intro u hu
  obtain ⟨x, _, rfl⟩ := List.mem_map.1 hu
  rfl
theorem keep4 {w0 w' : World} (h : Below w0.heap.size w0 w') {p0 p1 p2 p3 : Addr} {v0 v1 v2 v3 : Value} (h0 : w0.cell? p0 = some v0) (h1 : w0.cell? p1 = some v1) (h2 : w0.cell? p2 = some v2) (h3 : w0.cell? p3 = some v3) :
    w'.cell? p0 = some v0 ∧ w'.cell? p1 = some v1 ∧ w'.cell? p2 = some v2 ∧ w'.cell? p3 = some v3 := ⟨cell_below h h0, cell_below h h1, cell_below h h2, cell_below h h3⟩
theorem Upd.of_setCell (w : World) (p : Addr) (u : Value) : Upd w (w.setCell p u) (some p.block) (some p.block) :=
  ⟨⟨rfl, rfl, rfl, by simp, fun k _ hne => heap_setCell_other _ _ _ _ (fun e => hne (by rw [e]))⟩, .inl rfl⟩
theorem Upd.new5 {w w' : World} {r r' : Option Nat} (h : Upd w w' r r') {B : Nat} {c0 c1 c2 c3 c4 : Value} {T : TypeId} (hb : w.heap[B]? = some (.cells #[c0, c1, c2, c3, c4] T (0, 0))) (hne : r ≠ some B) :
    w'.cell? ⟨B, 0, none⟩ = some c0 ∧ w'.cell? ⟨B, 1, none⟩ = some c1 ∧ w'.cell? ⟨B, 2, none⟩ = some c2 ∧ w'.cell? ⟨B, 3, none⟩ = some c3 ∧ w'.cell? ⟨B, 4, none⟩ = some c4 ∧
    w'.frozen? ⟨B, 0, none⟩ = false ∧ w'.frozen? ⟨B, 1, none⟩ = false ∧ w'.frozen? ⟨B, 2, none⟩ = false ∧ w'.frozen? ⟨B, 3, none⟩ = false ∧ w'.frozen? ⟨B, 4, none⟩ = false := by
  have hlt : B < w.heap.size := by
    rcases Nat.lt_or_ge B w.heap.size with hlt | hge
    · exact hlt
    · rw [Array.getElem?_eq_none hge] at hb; cases hb
  have hb' : w'.heap[B]? = _ := (h.block hlt hne).trans hb
  exact ⟨cell_of_row _ _ _ _ _ _ hb', cell_of_row _ _ _ _ _ _ hb', cell_of_row _ _ _ _ _ _ hb', cell_of_row _ _ _ _ _ _ hb', cell_of_row _ _ _ _ _ _ hb', frozen_of_row _ _ _ _ _ hb', frozen_of_row _ _ _ _ _ hb', frozen_of_row _ _ _ _ _ hb', frozen_of_row _ _ _ _ _ hb', frozen_of_row _ _ _ _ _ hb'⟩
theorem Upd.newA {W w' : World} {r' : Option Nat} {B : Nat} {z : Obj} {c0 c1 c2 c3 c4 : Value} {T : TypeId} (h : Upd ((W.alloc z).alloc (.cells #[c0, c1, c2, c3, c4] T)).drew w' (some B) r') (hB : W.heap.size = B) :
    w'.cell? ⟨B + 1, 0, none⟩ = some c0 ∧ w'.cell? ⟨B + 1, 1, none⟩ = some c1 ∧ w'.cell? ⟨B + 1, 2, none⟩ = some c2 ∧ w'.cell? ⟨B + 1, 3, none⟩ = some c3 ∧ w'.cell? ⟨B + 1, 4, none⟩ = some c4 ∧
    w'.frozen? ⟨B + 1, 0, none⟩ = false ∧ w'.frozen? ⟨B + 1, 1, none⟩ = false ∧ w'.frozen? ⟨B + 1, 2, none⟩ = false ∧ w'.frozen? ⟨B + 1, 3, none⟩ = false ∧ w'.frozen? ⟨B + 1, 4, none⟩ = false := by
  subst hB
  exact h.new5 (heap_alloc2_new W _ _) (by simp)
theorem Upd.newB {W w' : World} {r' : Option Nat} {B : Nat} {z : Obj} {c0 c1 c2 c3 c4 : Value} {T : TypeId} (h : Upd ((W.alloc (.cells #[c0, c1, c2, c3, c4] T)).alloc z).drew w' (some (B + 1)) r') (hB : W.heap.size = B) :
    w'.cell? ⟨B, 0, none⟩ = some c0 ∧ w'.cell? ⟨B, 1, none⟩ = some c1 ∧ w'.cell? ⟨B, 2, none⟩ = some c2 ∧ w'.cell? ⟨B, 3, none⟩ = some c3 ∧ w'.cell? ⟨B, 4, none⟩ = some c4 ∧
    w'.frozen? ⟨B, 0, none⟩ = false ∧ w'.frozen? ⟨B, 1, none⟩ = false ∧ w'.frozen? ⟨B, 2, none⟩ = false ∧ w'.frozen? ⟨B, 3, none⟩ = false ∧ w'.frozen? ⟨B, 4, none⟩ = false := by
  subst hB
  exact h.new5 (heap_alloc2_old W _ _) (by simp)
theorem Upd.own' {w w' : World} {r : Nat} {r' : Option Nat} (h : Upd w w' (some r) r') : ∀ g, r' = some g → g = r ∨ w.heap.size ≤ g := by
  intro g hg
  rcases h.own with e | ⟨g', e, hg'⟩
  · left; rw [hg] at e; exact Option.some.inj e
  · right; rw [hg] at e; rw [Option.some.inj e]; exact hg'
/-- A new value at B, its names copied, no items yet. Beside what stood in the world w0, and beside the result's own cells. -/
def Dest (w0 : World) (B : Nat) (k n : Int) (s : ByteArray) (a : Option Addr) (ns : List ByteArray) (c : Nat) (wx : World) : Prop :=
  Below w0.heap.size w0 wx ∧ w0.heap.size ≤ B ∧ B < wx.heap.size ∧ wx.cell? ⟨B, 0, none⟩ = some (.int .i64 k) ∧ wx.cell? ⟨B, 1, none⟩ = some (.int .i64 n) ∧ wx.cell? ⟨B, 2, none⟩ = some (.string s) ∧ wx.cell? ⟨B, 3, none⟩ = some (.slice a ns.length c) ∧
    wx.cell? ⟨B, 4, none⟩ = some (.slice none 0 0) ∧ wx.frozen? ⟨B, 4, none⟩ = false ∧ (ns.length ≤ c ∧ c ≤ maxLen) ∧ StrsAt wx (fun b => w0.heap.size ≤ b ∧ b ≠ B) a ns
theorem dest_alloc {w0 w1 : World} {E T : TypeId} {k n : Int} {s : ByteArray} {a : Option Addr} {ns : List ByteArray} {c r N : Nat} (hbl : Below w0.heap.size w0 w1) (hs : w0.heap.size ≤ w1.heap.size)
    (hrow : Row w1 E 1 (.slice a ns.length c) ns.length (ns.map Value.string)) (ho : ∀ g, (Value.slice a ns.length c).ownBlock = some g → g = r ∨ N ≤ g) (hr : w0.heap.size ≤ r) (hN : w0.heap.size ≤ N) :
    Dest w0 w1.heap.size k n s a ns c (w1.alloc (.cells #[.int .i64 k, .int .i64 n, .string s, .slice a ns.length c, .slice none 0 0] T)) := by
  obtain ⟨a0, a1, a2, a3, a4⟩ := cells5' w1 (.int .i64 k) (.int .i64 n) (.string s) (.slice a ns.length c) (.slice none 0 0) T
  obtain ⟨a', c', he, hc, hst⟩ := hrow.strs (ok := fun b => w0.heap.size ≤ b ∧ b ≠ w1.heap.size) (fun g hg => ⟨by rcases ho g hg with h | h <;> omega, by have := hrow.lt hg; omega⟩)
  injection he with h1 _ h2
  subst h1; subst h2
  exact ⟨hbl.alloc (hs) _, hs, by simp, a0, a1, a2, a3, a4, frozen_of_row _ _ _ _ _ (heap_alloc_new _ _), hc, hst.below ((Below.refl _ _).alloc (Nat.le_refl _) _)⟩
theorem dest_set {w0 w1 : World} {E : TypeId} {B : Nat} {k n : Int} {s : ByteArray} {a : Option Addr} {ns : List ByteArray} {c r N : Nat} {u0 u1 u2 u3 u4 : Value} (hbl : Below w0.heap.size w0 w1)
    (hrow : Row w1 E 1 (.slice a ns.length c) ns.length (ns.map Value.string)) (ho : ∀ g, (Value.slice a ns.length c).ownBlock = some g → g = r ∨ N ≤ g) (hr : w0.heap.size ≤ r) (hN : w0.heap.size ≤ N) (hB : w0.heap.size ≤ B) (hBr : r ≠ B) (hBN : B < N)
    (q0 : w1.cell? ⟨B, 0, none⟩ = some u0) (q1 : w1.cell? ⟨B, 1, none⟩ = some u1) (q2 : w1.cell? ⟨B, 2, none⟩ = some u2) (q3 : w1.cell? ⟨B, 3, none⟩ = some u3) (q4 : w1.cell? ⟨B, 4, none⟩ = some u4) (q9 : w1.frozen? ⟨B, 4, none⟩ = false) :
    Dest w0 B k n s a ns c (((((w1.setCell ⟨B, 0, none⟩ (.int .i64 k)).setCell ⟨B, 1, none⟩ (.int .i64 n)).setCell ⟨B, 2, none⟩ (.string s)).setCell ⟨B, 3, none⟩ (.slice a ns.length c)).setCell ⟨B, 4, none⟩ (.slice none 0 0)) := by
  obtain ⟨a', c', he, hc, hst⟩ := hrow.strs (ok := fun b => w0.heap.size ≤ b ∧ b ≠ B) (fun g hg => ⟨by rcases ho g hg with h | h <;> omega, by rcases ho g hg with h | h <;> omega⟩)
  injection he with h1 _ h2
  subst h1; subst h2
  have ne : ∀ {i j : Nat}, i ≠ j → (⟨B, i, none⟩ : Addr) ≠ ⟨B, j, none⟩ := fun h e => h (by injection e)
  have hlt := cell_lt q0
  refine ⟨?_, hB, by simpa using hlt, ?_, ?_, ?_, ?_, ?_, ?_, hc, ?_⟩
  · have h' : w0.heap.size ≤ B := hB
    exact ((((hbl.setCell h' _).setCell h' _).setCell h' _).setCell h' _).setCell h' _
  · rw [setO (ne (by decide)), setO (ne (by decide)), setO (ne (by decide)), setO (ne (by decide)), setS q0]
  · rw [setO (ne (by decide)), setO (ne (by decide)), setO (ne (by decide)), setS (by rw [setO (ne (by decide))]; exact q1)]
  · rw [setO (ne (by decide)), setO (ne (by decide)), setS (by rw [setO (ne (by decide)), setO (ne (by decide))]; exact q2)]
  · rw [setO (ne (by decide)), setS (by rw [setO (ne (by decide)), setO (ne (by decide)), setO (ne (by decide))]; exact q3)]
  · rw [setS (by rw [setO (ne (by decide)), setO (ne (by decide)), setO (ne (by decide)), setO (ne (by decide))]; exact q4)]
  · rw [setF, setF, setF, setF, setF]; exact q9
  · refine hst.kept fun b _ hb => ⟨hb, ?_⟩
    rw [heap_setCell_other _ _ _ _ hb.2, heap_setCell_other _ _ _ _ hb.2, heap_setCell_other _ _ _ _ hb.2, heap_setCell_other _ _ _ _ hb.2, heap_setCell_other _ _ _ _ hb.2]
/-- A new value at B, its names copied, the items is copied so far into the row v. -/
structure Mid (w0 : World) (B : Nat) (E : TypeId) (k n : Int) (s : ByteArray) (a : Option Addr) (ns : List ByteArray) (c : Nat) (is : List JV) (v : Value) (xs : List Value) (wr : World) : Prop where
  below : Below w0.heap.size w0 wr
  hB : w0.heap.size ≤ B
  hlt : B < wr.heap.size
  c0 : wr.cell? ⟨B, 0, none⟩ = some (.int .i64 k)
  c1 : wr.cell? ⟨B, 1, none⟩ = some (.int .i64 n)
  c2 : wr.cell? ⟨B, 2, none⟩ = some (.string s)
  c3 : wr.cell? ⟨B, 3, none⟩ = some (.slice a ns.length c)
  c4 : wr.cell? ⟨B, 4, none⟩ = some v
  f4 : wr.frozen? ⟨B, 4, none⟩ = false
  hc : ns.length ≤ c ∧ c ≤ maxLen
  row : Row wr E 5 v is.length xs
  own : ∀ g, v.ownBlock = some g → w0.heap.size ≤ g ∧ g ≠ B
  reps : Reps wr (fun b => w0.heap.size ≤ b ∧ b ≠ B ∧ v.ownBlock ≠ some b) is xs
  strs : StrsAt wr (fun b => w0.heap.size ≤ b ∧ b ≠ B ∧ v.ownBlock ≠ some b) a ns
theorem Dest.mid {w0 : World} {B : Nat} {E : TypeId} {k n : Int} {s : ByteArray} {a : Option Addr} {ns : List ByteArray} {c : Nat} {wx : World} (h : Dest w0 B k n s a ns c wx) : Mid w0 B E k n s a ns c [] (.slice none 0 0) [] wx := by
  obtain ⟨h1, h2, h3, h4, h5, h6, h7, h8, h9, h10, h11⟩ := h
  exact ⟨h1, h2, h3, h4, h5, h6, h7, h8, h9, h10, row_nil _ _ _, fun g hg => (by cases hg), rfl, h11.kept fun b _ hb => ⟨⟨hb.1, hb.2, by simp [Value.ownBlock]⟩, rfl⟩⟩
theorem Mid.step {w0 : World} {B : Nat} {E : TypeId} {k n : Int} {s : ByteArray} {a : Option Addr} {ns : List ByteArray} {c : Nat} {is : List JV} {v : Value} {xs : List Value} {wr : World} (h : Mid w0 B E k n s a ns c is v xs wr)
    {t : JV} {cs : List Value} {w1 w2 w3 : World} {v' : Value} (hb : Below wr.heap.size wr w1) (ht : Rep w1 (fun b => wr.heap.size ≤ b) t cs) (hb2 : Below w1.heap.size w1 w2)
    (hrow : Row w3 E 5 v' (is.length + 1) (xs ++ cs)) (hu : Upd w2 w3 v.ownBlock v'.ownBlock) :
    Mid w0 B E k n s a ns c (is ++ [t]) v' (xs ++ cs) (w3.setCell ⟨B, 4, none⟩ v') := by
  have hB := h.hB
  have hlt := h.hlt
  have hb3 : Below wr.heap.size wr w2 := hb.trans (hb2.mono hb.size)
  have hsz := hb.size
  have hsz2 := hb2.size
  have hsz3 := hu.grown.size
  have hownB : v.ownBlock ≠ some B := fun e => (h.own B e).2 rfl
  have hown' : ∀ g, v'.ownBlock = some g → w0.heap.size ≤ g ∧ g ≠ B := by
    intro g hg
    rcases hu.own with e | ⟨g', e, hg'⟩
    · rw [e] at hg; exact h.own g hg
    · rw [e] at hg; obtain rfl := Option.some.inj hg; omega
  have hother : ∀ b, b < wr.heap.size → v.ownBlock ≠ some b → w3.heap[b]? = wr.heap[b]? := fun b hbl hne => (hu.block (by omega) hne).trans (hb3.block b hbl)
  have hcell : ∀ (i : Nat) (u : Value), wr.cell? ⟨B, i, none⟩ = some u → w3.cell? ⟨B, i, none⟩ = some u := fun i u hc => by
    rw [World.cell?_of_block (w := wr) (hother B hlt hownB)]; exact hc
  have ne : ∀ {i : Nat}, i ≠ 4 → (⟨B, 4, none⟩ : Addr) ≠ ⟨B, i, none⟩ := fun h e => h (by injection e with _ e; exact e.symm)
  have hown2 : ∀ b, b < wr.heap.size → v.ownBlock ≠ some b → v'.ownBlock ≠ some b := by
    intro b hbl hne hg
    rcases hu.own with e | ⟨g', e, hg'⟩
    · rw [e] at hg; exact hne hg
    · rw [e] at hg; obtain rfl := Option.some.inj hg; omega
  have hkeep : ∀ b, b < wr.heap.size → (w0.heap.size ≤ b ∧ b ≠ B ∧ v.ownBlock ≠ some b) → (w0.heap.size ≤ b ∧ b ≠ B ∧ v'.ownBlock ≠ some b) ∧ (w3.setCell ⟨B, 4, none⟩ v').heap[b]? = wr.heap[b]? := fun b hbl ho =>
    ⟨⟨ho.1, ho.2.1, hown2 b hbl ho.2.2⟩, by rw [heap_setCell_other _ _ _ _ ho.2.1]; exact hother b hbl ho.2.2⟩
  refine ⟨?_, hB, by simp; omega, ?_, ?_, ?_, ?_, ?_, ?_, h.hc, ?_, hown', ?_, h.strs.kept hkeep⟩
  · have h1 : Below w0.heap.size w0 w2 := h.below.trans (hb3.mono h.below.size)
    exact (h1.trans (hu.below (Nat.le_trans h.below.size (by omega)) (fun g hg => (h.own g hg).1))).setCell (hB) _
  · rw [setO (ne (by decide))]; exact hcell _ _ h.c0
  · rw [setO (ne (by decide))]; exact hcell _ _ h.c1
  · rw [setO (ne (by decide))]; exact hcell _ _ h.c2
  · rw [setO (ne (by decide))]; exact hcell _ _ h.c3
  · rw [setS (hcell _ _ h.c4)]
  · rw [setF, World.frozen?_of_block (w := wr) (hother B hlt hownB)]; exact h.f4
  · rw [List.length_append]
    refine Row.kept hrow (Upd.of_setCell w3 ⟨B, 4, none⟩ v') ?_
    cases e : v'.ownBlock with
    | none => exact .inl rfl
    | some g => right; intro e2; exact (hown' g e).2 (Option.some.inj e2)
  · refine Reps.snoc ?_ (h.reps.kept hkeep)
    refine Rep.kept (w := w1) (fun b hbl hbw => ?_) t cs ht
    have hvb : v.ownBlock ≠ some b := fun e => by have := h.row.lt e; omega
    have hw0 := h.below.size
    refine ⟨⟨by omega, by omega, ?_⟩, ?_⟩
    · intro hg
      rcases hu.own with e | ⟨g', e, hg'⟩
      · rw [e] at hg; exact hvb hg
      · rw [e] at hg; obtain rfl := Option.some.inj hg; omega
    · rw [heap_setCell_other _ _ _ _ (by show b ≠ B; omega)]
      exact (hu.block (by omega) hvb).trans (hb2.block b hbl)
theorem Mid.store {w0 : World} {B : Nat} {E : TypeId} {k n : Int} {s : ByteArray} {a : Option Addr} {ns : List ByteArray} {c : Nat} {is : List JV} {v : Value} {xs : List Value} {wr : World} (h : Mid w0 B E k n s a ns c is v xs wr)
    {w1 w2 w3 : World} {v' : Value} (hb : Below wr.heap.size wr w1) (hb2 : Below w1.heap.size w1 w2) (hu : Upd w2 w3 v.ownBlock v'.ownBlock) : w3.cell? ⟨B, 4, none⟩ = some v ∧ w3.frozen? ⟨B, 4, none⟩ = false := by
  have hlt := h.hlt
  have hsz := hb.size
  have hsz2 := hb2.size
  have hother : w3.heap[B]? = wr.heap[B]? := (hu.block (by omega) (fun e => (h.own B e).2 rfl)).trans ((hb2.block B (by omega)).trans (hb.block B (by omega)))
  exact ⟨by rw [World.cell?_of_block (w := wr) hother]; exact h.c4, by rw [World.frozen?_of_block (w := wr) hother]; exact h.f4⟩
theorem Mid.row_at {w0 : World} {B : Nat} {E : TypeId} {k n : Int} {s : ByteArray} {a : Option Addr} {ns : List ByteArray} {c : Nat} {is : List JV} {v : Value} {xs : List Value} {wr : World} (h : Mid w0 B E k n s a ns c is v xs wr)
    {w1 w2 : World} (hb : Below wr.heap.size wr w1) (hb2 : Below w1.heap.size w1 w2) {j : Nat} (hj : is.length = j) : Row w2 E 5 v j xs := by
  subst hj
  exact (h.row.below hb).below hb2
/-- The value is whole. -/
theorem Mid.done {w0 : World} {B : Nat} {E : TypeId} {k n : Int} {s : ByteArray} {a : Option Addr} {ns : List ByteArray} {c : Nat} {is : List JV} {v : Value} {xs : List Value} {wr : World} (h : Mid w0 B E k n s a ns c is v xs wr)
    (hk : -9223372036854775808 ≤ k ∧ k ≤ 9223372036854775807) (hn : -9223372036854775808 ≤ n ∧ n ≤ 9223372036854775807) (hs : s.size ≤ maxLen) :
    ∃ ai ci, v = .slice ai is.length ci ∧ Rep wr (fun b => w0.heap.size ≤ b) (.mk k n s ns is) [.int .i64 k, .int .i64 n, .string s, .slice a ns.length c, .slice ai is.length ci] := by
  obtain ⟨ai, ci, hv, hci, hit⟩ := h.row.items (ok := fun b => w0.heap.size ≤ b) (h.reps.kept fun b _ hb => ⟨hb.1, rfl⟩) (fun g hg => (h.own g hg).1)
  exact ⟨ai, ci, hv, rep_mk.2 ⟨hk, hn, hs, a, c, ai, ci, rfl, h.hc, hci, h.strs.kept (fun b _ hb => ⟨hb.1, rfl⟩), hit⟩⟩
theorem JV.bulk_pos (t : JV) : 1 ≤ t.bulk := by cases t; rw [JV.bulk]; omega
theorem JV.len_bulks (l : List JV) : l.length ≤ JV.bulks l := by
  induction l with
  | nil => simp
  | cons x r ih => have := JV.bulk_pos x; simp only [JV.bulks, List.length_cons]; omega
theorem set5 {w : World} {B : Nat} {T : TypeId} {u0 u1 u2 u3 u4 c0 c1 c2 c3 c4 : Value} (h : w.heap[B]? = some (.cells #[u0, u1, u2, u3, u4] T (0, 0))) :
    (((((w.setCell ⟨B, 0, none⟩ c0).setCell ⟨B, 1, none⟩ c1).setCell ⟨B, 2, none⟩ c2).setCell ⟨B, 3, none⟩ c3).setCell ⟨B, 4, none⟩ c4).heap[B]? = some (.cells #[c0, c1, c2, c3, c4] T (0, 0)) :=
  heap_setCell_same _ _ _ _ _ _ (heap_setCell_same _ _ _ _ _ _ (heap_setCell_same _ _ _ _ _ _ (heap_setCell_same _ _ _ _ _ _ (heap_setCell_same _ _ _ _ _ _ h))))
theorem below_set5 {a w : World} {B n : Nat} {c0 c1 c2 c3 c4 : Value} (h : Below n a w) (hB : n ≤ B) :
    Below n a (((((w.setCell ⟨B, 0, none⟩ c0).setCell ⟨B, 1, none⟩ c1).setCell ⟨B, 2, none⟩ c2).setCell ⟨B, 3, none⟩ c3).setCell ⟨B, 4, none⟩ c4) :=
  ((((h.setCell hB _).setCell hB _).setCell hB _).setCell hB _).setCell hB _
theorem other_set5 {w : World} {B b : Nat} {c0 c1 c2 c3 c4 : Value} (h : b ≠ B) :
    (((((w.setCell ⟨B, 0, none⟩ c0).setCell ⟨B, 1, none⟩ c1).setCell ⟨B, 2, none⟩ c2).setCell ⟨B, 3, none⟩ c3).setCell ⟨B, 4, none⟩ c4).heap[b]? = w.heap[b]? := by
  rw [heap_setCell_other _ _ _ _ h, heap_setCell_other _ _ _ _ h, heap_setCell_other _ _ _ _ h, heap_setCell_other _ _ _ _ h, heap_setCell_other _ _ _ _ h]
end Go.Proofs.YtbkbokfegjodnaaDoor
namespace Go.Proofs.YtbkbokfegjodnaaDoor
open Go.RowKit
/-- v owns the bytes l. -/
def Byts (w : World) (v : Value) (l : List UInt8) : Prop := Row w 5 1 v l.length (l.map fun c => .int .u8 (c.toNat : Int))
theorem bytTy : SlTy Tryd.prog 63 5 (.int .u8 0) 1 1 := ⟨by kernel_rfl, by kernel_rfl, by kernel_rfl, by decide⟩
theorem byts_nil (w : World) : Byts w (.slice none 0 0) [] := row_nil _ _ _
theorem byts_kept {w w' : World} {v : Value} {l : List UInt8} (h : Byts w v l) (hb : Below w.heap.size w w') : Byts w' v l := Row.below h hb
/-- one byte more -/
theorem wpList_byte {ops : Array Oper} {rest : List Oper} {o : Oper} {a : Act} {w : World} {Q : Exit → Act → World → Prop} (hgd : o.guard = none) (s x : Operand)
    (ho : o.op = .call { callee := .builtin .append, args := #[s, x], argTypes := #[63, 63] })
    (v : Value) (l : List UInt8) (hs : a.eval s = v) (hown : Byts w v l) (g : Nat) (n : Int) (c : UInt8)
    (hx : a.eval x = .slice (some ⟨g, 0, none⟩) 1 1) (hnew : w.cell? ⟨g, 0, none⟩ = some (.int .u8 n)) (hc : n = (c.toNat : Int)) (hlen : l.length < 70368744177664)
    (h : ∀ v' w', Byts w' v' (l ++ [c]) → Upd w w' v.ownBlock v'.ownBlock → wpList Tryd.prog ops Q rest (a.put o.dst v') w') : wpList Tryd.prog ops Q (o :: rest) a w := by
  subst hc
  refine wpList_app bytTy hgd s x ho v l.length _ hs hown ⟨g, 0, none⟩ 1 1 [.int .u8 (c.toNat : Int)] hx rfl ?_ (by simp [Value.oneCell']) (by unfold maxLen; omega) (by omega) ?_
  · intro j u hj
    match j, hj with
    | 0, hj => simp at hj; subst hj; simpa [Addr.add] using hnew
  · intro v' w' h2 h3
    refine h v' w' ?_ h3
    unfold Byts
    simpa using h2
/-- two bytes more -/
theorem wpList_bytes2 {ops : Array Oper} {rest : List Oper} {o : Oper} {a : Act} {w : World} {Q : Exit → Act → World → Prop} (hgd : o.guard = none) (s x : Operand)
    (ho : o.op = .call { callee := .builtin .append, args := #[s, x], argTypes := #[63, 63] })
    (v : Value) (l : List UInt8) (hs : a.eval s = v) (hown : Byts w v l) (g : Nat) (c d : UInt8)
    (hx : a.eval x = .slice (some ⟨g, 0, none⟩) 2 2) (hnew : w.cell? ⟨g, 0, none⟩ = some (.int .u8 (c.toNat : Int))) (hnew2 : w.cell? ⟨g, 1, none⟩ = some (.int .u8 (d.toNat : Int))) (hlen : l.length < 70368744177664)
    (h : ∀ v' w', Byts w' v' (l ++ [c, d]) → Upd w w' v.ownBlock v'.ownBlock → wpList Tryd.prog ops Q rest (a.put o.dst v') w') : wpList Tryd.prog ops Q (o :: rest) a w := by
  refine wpList_app bytTy hgd s x ho v l.length _ hs hown ⟨g, 0, none⟩ 2 2 [.int .u8 (c.toNat : Int), .int .u8 (d.toNat : Int)] hx rfl ?_ (by simp [Value.oneCell']) (by unfold maxLen; omega) (by omega) ?_
  · intro j u hj
    match j, hj with
    | 0, hj => simp at hj; subst hj; simpa [Addr.add] using hnew
    | 1, hj => simp at hj; subst hj; simpa [Addr.add] using hnew2
  · intro v' w' h2 h3
    refine h v' w' ?_ h3
    unfold Byts
    simpa using h2
/-- a text's bytes, with the end -/
def encT (s : List UInt8) : List UInt8 := (s.flatMap fun c => if c = 0 then [0, 255] else [c]) ++ [0, 1]
/-- byte number j of a number, the greatest first -/
def byteN (n : Int) (j : Nat) : UInt8 := UInt8.ofNat ((n + 9223372036854775808).toNat / 2 ^ (8 * (7 - j)))
def encN (n : Int) : List UInt8 := (List.range 8).map (byteN n)
mutual
/-- a value's bytes -/
def enc : JV → List UInt8
  | .mk k n s ns is =>
    if k = 0 then [5] else if k = 1 then [80] else if k = 2 then [81] else if k = 3 then 16 :: encN n else if k = 4 then 32 :: encT s.data.toList
    else if k = 6 then 48 :: (encM ns is ++ [1]) else 64 :: (encL is ++ [1])
def encL : List JV → List UInt8
  | [] => []
  | t :: r => 2 :: (enc t ++ encL r)
def encM : List ByteArray → List JV → List UInt8
  | n :: ns, t :: r => 2 :: (encT n.data.toList ++ (enc t ++ encM ns r))
  | _, _ => []
end
theorem byteN_int {n : Int} {j : Nat} : ((byteN n j).toNat : Int) = ((n + 9223372036854775808).toNat / 2 ^ (8 * (7 - j)) % 256 : Nat) := by
  unfold byteN
  rw [UInt8.toNat_ofNat']
theorem encN_snoc (n : Int) (j : Nat) : (List.range (j + 1)).map (byteN n) = (List.range j).map (byteN n) ++ [byteN n j] := by
  rw [List.range_succ, List.map_append]; rfl
end Go.Proofs.YtbkbokfegjodnaaDoor
namespace Go.Proofs.YtbkbokfegjodnaaDoor
mutual
/-- each object has a name for each item -/
def okT : JV → Prop
  | .mk k _ _ ns is => (k = 6 → is.length ≤ ns.length) ∧ okTs is
def okTs : List JV → Prop
  | [] => True
  | t :: r => okT t ∧ okTs r
end
theorem okTs_at : ∀ {l : List JV}, okTs l → ∀ (i : Nat) (h : i < l.length), okT l[i]
  | t :: r, h, 0, _ => by rw [okTs] at h; exact h.1
  | t :: r, h, i + 1, hi => by rw [okTs] at h; exact okTs_at h.2 i (by simpa using hi)
end Go.Proofs.YtbkbokfegjodnaaDoor
namespace Go.Proofs.YtbkbokfegjodnaaDoor
/-- does a text stand in a list? -/
def hasB (l : List ByteArray) (s : ByteArray) : Bool := l.any (fun x => x.data.toList == s.data.toList)
/-- the bytes behind a lead byte: m are to come of a character of n -/
def tails : Nat → Int → Nat → Nat → List UInt8 → Int
  | 0, n, _, _, _ => n
  | _ + 1, _, _, _, [] => -1
  | m + 1, n, lo, hi, b :: t => if b.toNat < lo ∨ hi < b.toNat then 0 else tails m n 128 191 t
/-- how many bytes the character at a text's beginning has; 0: none begins there; -1: the text ends in it -/
def chrD : List UInt8 → Int
  | [] => 0
  | c :: t =>
    if c.toNat < 128 then 1
    else if c.toNat < 194 then 0
    else if c.toNat < 224 then tails 1 2 128 191 t
    else if c.toNat = 224 then tails 2 3 160 191 t
    else if c.toNat = 237 then tails 2 3 128 159 t
    else if c.toNat < 240 then tails 2 3 128 191 t
    else if c.toNat = 240 then tails 3 4 144 191 t
    else if c.toNat < 244 then tails 3 4 128 191 t
    else if c.toNat = 244 then tails 3 4 128 143 t
    else 0
theorem tails_le : ∀ (m : Nat) (n : Int) (lo hi : Nat) (t : List UInt8), (m : Int) < n → tails m n lo hi t ≤ n ∧ -1 ≤ tails m n lo hi t ∧ (0 < tails m n lo hi t → tails m n lo hi t = n ∧ m ≤ t.length)
  | 0, n, _, _, t, h => by simp only [tails]; exact ⟨by omega, by omega, fun _ => ⟨trivial, by omega⟩⟩
  | m + 1, n, _, _, [], h => by simp only [tails]; exact ⟨by omega, by omega, fun h => by omega⟩
  | m + 1, n, lo, hi, b :: t, h => by
    simp only [tails]
    split
    · exact ⟨by omega, by omega, fun h => by omega⟩
    · have := tails_le m n 128 191 t (by omega)
      simp only [List.length_cons]
      exact ⟨this.1, this.2.1, fun h => ⟨(this.2.2 h).1, by have := (this.2.2 h).2; omega⟩⟩
theorem chr_le (l : List UInt8) : -1 ≤ chrD l ∧ chrD l ≤ 4 ∧ chrD l ≤ l.length := by
  cases l with
  | nil => simp [chrD]
  | cons c t =>
    have h1 := tails_le 1 2 128 191 t (by omega)
    have h2 := tails_le 2 3 160 191 t (by omega)
    have h3 := tails_le 2 3 128 159 t (by omega)
    have h4 := tails_le 2 3 128 191 t (by omega)
    have h5 := tails_le 3 4 144 191 t (by omega)
    have h6 := tails_le 3 4 128 191 t (by omega)
    have h7 := tails_le 3 4 128 143 t (by omega)
    simp only [chrD, List.length_cons]
    repeat' split
    all_goals omega
theorem tails2 (lo hi : Nat) (t : List UInt8) : (Lib.checkN (t.length + 1) (t.getD 0 0).toNat (t.getD 1 0).toNat (t.getD 2 0).toNat 2 lo hi = none ∧ tails 1 2 lo hi t ≤ 0) ∨ (Lib.checkN (t.length + 1) (t.getD 0 0).toNat (t.getD 1 0).toNat (t.getD 2 0).toNat 2 lo hi = some 2 ∧ tails 1 2 lo hi t = 2) := by
  match t with
  | [] =>
    left; exact ⟨by unfold Lib.checkN; rw [if_pos rfl, if_pos (by simp; try omega)], by simp only [tails]; decide⟩
  | b :: t =>
    rcases Classical.em (b.toNat < lo ∨ hi < b.toNat) with h0 | h0
    · left; exact ⟨by unfold Lib.checkN; rw [if_pos rfl, if_pos (by simp; omega)], by simp only [tails]; rw [if_pos h0]; decide⟩
    right; exact ⟨by unfold Lib.checkN; rw [if_pos rfl, if_neg (by simp; omega)], by simp only [tails]; rw [if_neg h0]⟩
theorem tails3 (lo hi : Nat) (t : List UInt8) : (Lib.checkN (t.length + 1) (t.getD 0 0).toNat (t.getD 1 0).toNat (t.getD 2 0).toNat 3 lo hi = none ∧ tails 2 3 lo hi t ≤ 0) ∨ (Lib.checkN (t.length + 1) (t.getD 0 0).toNat (t.getD 1 0).toNat (t.getD 2 0).toNat 3 lo hi = some 3 ∧ tails 2 3 lo hi t = 3) := by
  match t with
  | [] =>
    left; exact ⟨by unfold Lib.checkN; rw [if_neg (by decide), if_pos rfl, if_pos (by simp; try omega)], by simp only [tails]; decide⟩
  | [b] =>
    rcases Classical.em (b.toNat < lo ∨ hi < b.toNat) with h0 | h0
    · left; exact ⟨by unfold Lib.checkN; rw [if_neg (by decide), if_pos rfl, if_pos (by simp)], by simp only [tails]; rw [if_pos h0]; decide⟩
    left; exact ⟨by unfold Lib.checkN; rw [if_neg (by decide), if_pos rfl, if_pos (by simp; try omega)], by simp only [tails]; rw [if_neg h0]; decide⟩
  | b :: c :: t =>
    rcases Classical.em (b.toNat < lo ∨ hi < b.toNat) with h0 | h0
    · left; exact ⟨by unfold Lib.checkN; rw [if_neg (by decide), if_pos rfl, if_pos (by simp; omega)], by simp only [tails]; rw [if_pos h0]; decide⟩
    rcases Classical.em (c.toNat < 128 ∨ 191 < c.toNat) with h1 | h1
    · left; exact ⟨by unfold Lib.checkN; rw [if_neg (by decide), if_pos rfl, if_pos (by simp; omega)], by simp only [tails]; rw [if_neg h0]; rw [if_pos h1]; decide⟩
    right; exact ⟨by unfold Lib.checkN; rw [if_neg (by decide), if_pos rfl, if_neg (by simp; omega)], by simp only [tails]; rw [if_neg h0]; rw [if_neg h1]⟩
theorem tails4 (lo hi : Nat) (t : List UInt8) : (Lib.checkN (t.length + 1) (t.getD 0 0).toNat (t.getD 1 0).toNat (t.getD 2 0).toNat 4 lo hi = none ∧ tails 3 4 lo hi t ≤ 0) ∨ (Lib.checkN (t.length + 1) (t.getD 0 0).toNat (t.getD 1 0).toNat (t.getD 2 0).toNat 4 lo hi = some 4 ∧ tails 3 4 lo hi t = 4) := by
  match t with
  | [] =>
    left; exact ⟨by unfold Lib.checkN; rw [if_neg (by decide), if_neg (by decide), if_pos rfl, if_pos (by simp; try omega)], by simp only [tails]; decide⟩
  | [b] =>
    rcases Classical.em (b.toNat < lo ∨ hi < b.toNat) with h0 | h0
    · left; exact ⟨by unfold Lib.checkN; rw [if_neg (by decide), if_neg (by decide), if_pos rfl, if_pos (by simp)], by simp only [tails]; rw [if_pos h0]; decide⟩
    left; exact ⟨by unfold Lib.checkN; rw [if_neg (by decide), if_neg (by decide), if_pos rfl, if_pos (by simp; try omega)], by simp only [tails]; rw [if_neg h0]; decide⟩
  | [b, c] =>
    rcases Classical.em (b.toNat < lo ∨ hi < b.toNat) with h0 | h0
    · left; exact ⟨by unfold Lib.checkN; rw [if_neg (by decide), if_neg (by decide), if_pos rfl, if_pos (by simp)], by simp only [tails]; rw [if_pos h0]; decide⟩
    rcases Classical.em (c.toNat < 128 ∨ 191 < c.toNat) with h1 | h1
    · left; exact ⟨by unfold Lib.checkN; rw [if_neg (by decide), if_neg (by decide), if_pos rfl, if_pos (by simp)], by simp only [tails]; rw [if_neg h0]; rw [if_pos h1]; decide⟩
    left; exact ⟨by unfold Lib.checkN; rw [if_neg (by decide), if_neg (by decide), if_pos rfl, if_pos (by simp; try omega)], by simp only [tails]; rw [if_neg h0]; rw [if_neg h1]; decide⟩
  | b :: c :: d :: t =>
    rcases Classical.em (b.toNat < lo ∨ hi < b.toNat) with h0 | h0
    · left; exact ⟨by unfold Lib.checkN; rw [if_neg (by decide), if_neg (by decide), if_pos rfl, if_pos (by simp; omega)], by simp only [tails]; rw [if_pos h0]; decide⟩
    rcases Classical.em (c.toNat < 128 ∨ 191 < c.toNat) with h1 | h1
    · left; exact ⟨by unfold Lib.checkN; rw [if_neg (by decide), if_neg (by decide), if_pos rfl, if_pos (by simp; omega)], by simp only [tails]; rw [if_neg h0]; rw [if_pos h1]; decide⟩
    rcases Classical.em (d.toNat < 128 ∨ 191 < d.toNat) with h2 | h2
    · left; exact ⟨by unfold Lib.checkN; rw [if_neg (by decide), if_neg (by decide), if_pos rfl, if_pos (by simp; omega)], by simp only [tails]; rw [if_neg h0]; rw [if_neg h1]; rw [if_pos h2]; decide⟩
    right; exact ⟨by unfold Lib.checkN; rw [if_neg (by decide), if_neg (by decide), if_pos rfl, if_neg (by simp; omega)], by simp only [tails]; rw [if_neg h0]; rw [if_neg h1]; rw [if_neg h2]⟩
theorem valid_chr (l : List UInt8) (hne : l ≠ []) : Lib.validD l = if chrD l ≤ 0 then false else Lib.validD (l.drop (chrD l).toNat) := by
  cases l with
  | nil => exact absurd rfl hne
  | cons c t =>
    by_cases h0 : c.toNat < 128
    · rw [Lib.validD_cons c t h0]; simp [chrD, h0]
    · have hc := c.toNat_lt
      rw [Lib.validD_lead _ hne (by simpa using h0)]
      have key : ∀ (sz lo hi : Nat) (T : Int), ((Lib.checkN (t.length + 1) (t.getD 0 0).toNat (t.getD 1 0).toNat (t.getD 2 0).toNat sz lo hi = none ∧ T ≤ 0) ∨ (Lib.checkN (t.length + 1) (t.getD 0 0).toNat (t.getD 1 0).toNat (t.getD 2 0).toNat sz lo hi = some sz ∧ T = sz)) → 2 ≤ sz →
          (match Lib.checkN (t.length + 1) (t.getD 0 0).toNat (t.getD 1 0).toNat (t.getD 2 0).toNat sz lo hi with | none => false | some k => Lib.validD ((c :: t).drop k)) = if T ≤ 0 then false else Lib.validD ((c :: t).drop T.toNat) := by
        intro sz lo hi T h h2
        rcases h with ⟨h, h3⟩ | ⟨h, rfl⟩
        · rw [h, if_pos h3]
        · rw [h, if_neg (by omega)]; rfl
      have hf : Lib.firstT c.toNat = if c.toNat < 194 then 241 else if c.toNat < 224 then 2 else if c.toNat = 224 then 19 else if c.toNat < 237 then 3 else if c.toNat = 237 then 35 else if c.toNat < 240 then 3 else if c.toNat = 240 then 52 else if c.toNat < 244 then 4 else if c.toNat = 244 then 68 else 241 := by
        unfold Lib.firstT; rw [if_neg h0]
      simp only [List.length_cons, List.getD_cons_zero, List.getD_cons_succ, hf, chrD, if_neg h0]
      have e2 := key 2 128 191 _ (tails2 128 191 t) (by omega)
      have e3a := key 3 160 191 _ (tails3 160 191 t) (by omega)
      have e3b := key 3 128 159 _ (tails3 128 159 t) (by omega)
      have e3c := key 3 128 191 _ (tails3 128 191 t) (by omega)
      have e4a := key 4 144 191 _ (tails4 144 191 t) (by omega)
      have e4b := key 4 128 191 _ (tails4 128 191 t) (by omega)
      have e4c := key 4 128 143 _ (tails4 128 143 t) (by omega)
      have en : ∀ lo hi, Lib.checkN (t.length + 1) (t.getD 0 0).toNat (t.getD 1 0).toNat (t.getD 2 0).toNat 1 lo hi = none := fun lo hi => by simp [Lib.checkN]
      rcases (show c.toNat < 194 ∨ (194 ≤ c.toNat ∧ c.toNat < 224) ∨ c.toNat = 224 ∨ (225 ≤ c.toNat ∧ c.toNat < 237) ∨ c.toNat = 237 ∨ (238 ≤ c.toNat ∧ c.toNat < 240) ∨ c.toNat = 240 ∨ (241 ≤ c.toNat ∧ c.toNat < 244) ∨ c.toNat = 244 ∨ 245 ≤ c.toNat by omega) with h | h | h | h | h | h | h | h | h | h
      · simp only [if_pos h]; rw [show 241 % 8 = 1 from rfl, en]; rfl
      · rw [if_neg (show ¬ c.toNat < 194 by omega), if_pos h.2, if_neg (show ¬ c.toNat < 194 by omega), if_pos h.2]; exact e2
      · simp only [h]; exact e3a
      · rw [if_neg (show ¬ c.toNat < 194 by omega), if_neg (show ¬ c.toNat < 224 by omega), if_neg (show ¬ c.toNat = 224 by omega), if_pos h.2, if_neg (show ¬ c.toNat < 194 by omega), if_neg (show ¬ c.toNat < 224 by omega), if_neg (show ¬ c.toNat = 224 by omega), if_neg (show ¬ c.toNat = 237 by omega), if_pos (show c.toNat < 240 by omega)]; exact e3c
      · simp only [h]; exact e3b
      · rw [if_neg (show ¬ c.toNat < 194 by omega), if_neg (show ¬ c.toNat < 224 by omega), if_neg (show ¬ c.toNat = 224 by omega), if_neg (show ¬ c.toNat < 237 by omega), if_neg (show ¬ c.toNat = 237 by omega), if_pos h.2, if_neg (show ¬ c.toNat < 194 by omega), if_neg (show ¬ c.toNat < 224 by omega), if_neg (show ¬ c.toNat = 224 by omega), if_neg (show ¬ c.toNat = 237 by omega), if_pos (show c.toNat < 240 by omega)]; exact e3c
      · simp only [h]; exact e4a
      · rw [if_neg (show ¬ c.toNat < 194 by omega), if_neg (show ¬ c.toNat < 224 by omega), if_neg (show ¬ c.toNat = 224 by omega), if_neg (show ¬ c.toNat < 237 by omega), if_neg (show ¬ c.toNat = 237 by omega), if_neg (show ¬ c.toNat < 240 by omega), if_neg (show ¬ c.toNat = 240 by omega), if_pos h.2, if_neg (show ¬ c.toNat < 194 by omega), if_neg (show ¬ c.toNat < 224 by omega), if_neg (show ¬ c.toNat = 224 by omega), if_neg (show ¬ c.toNat = 237 by omega), if_neg (show ¬ c.toNat < 240 by omega), if_neg (show ¬ c.toNat = 240 by omega), if_pos h.2]; exact e4b
      · simp only [h]; exact e4c
      · rw [if_neg (show ¬ c.toNat < 194 by omega), if_neg (show ¬ c.toNat < 224 by omega), if_neg (show ¬ c.toNat = 224 by omega), if_neg (show ¬ c.toNat < 237 by omega), if_neg (show ¬ c.toNat = 237 by omega), if_neg (show ¬ c.toNat < 240 by omega), if_neg (show ¬ c.toNat = 240 by omega), if_neg (show ¬ c.toNat < 244 by omega), if_neg (show ¬ c.toNat = 244 by omega), if_neg (show ¬ c.toNat < 194 by omega), if_neg (show ¬ c.toNat < 224 by omega), if_neg (show ¬ c.toNat = 224 by omega), if_neg (show ¬ c.toNat = 237 by omega), if_neg (show ¬ c.toNat < 240 by omega), if_neg (show ¬ c.toNat = 240 by omega), if_neg (show ¬ c.toNat < 244 by omega), if_neg (show ¬ c.toNat = 244 by omega)]; rw [show 241 % 8 = 1 from rfl, en]; rfl
end Go.Proofs.YtbkbokfegjodnaaDoor
