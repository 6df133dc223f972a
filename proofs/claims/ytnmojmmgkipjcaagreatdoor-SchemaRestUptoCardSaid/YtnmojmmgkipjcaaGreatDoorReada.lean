/- The makers of the rules that lead to schemas; the call of any maker. Conditions: what the tree holds is at most 2 to the 40. -/
import Derived.Test.YtnmojmmgkipjcaaGreatDoorChka
import Derived.Test.YtnmojmmgkipjcaaGreatDoorMakerb
import Derived.Test.YtnmojmmgkipjcaaGreatDoorPlaina
import Derived.Test.YtnmojmmgkipjcaaGreatDoorSdoc
import Derived.Deep.RegionLaw
import Derived.Conc.MuLone
namespace Go.Proofs.YtnmojmmgkipjcaaGreatDoor
mutual
/-- each object has as many names as items -/
def okU : JV → Prop
  | .mk k _ _ ns is => (k = 6 → ns.length = is.length) ∧ okUs is
def okUs : List JV → Prop
  | [] => True
  | t :: r => okU t ∧ okUs r
end
theorem okUs_at : ∀ {l : List JV}, okUs l → ∀ (i : Nat) (h : i < l.length), okU l[i]
  | t :: r, h, 0, _ => by rw [okUs] at h; exact h.1
  | t :: r, h, i + 1, hi => by rw [okUs] at h; exact okUs_at h.2 i (by simpa using hi)
mutual
theorem okU_chk : ∀ (t : JV) (d : Int), chk t d = 0 → okU t
  | .mk k n s ns is, d, h => by
    rw [chk] at h
    rw [okU]
    split at h
    · exact absurd h (by decide)
    · split at h
      · exact absurd h (by decide)
      · rename_i h2
        exact ⟨fun hk => by have := fits_len (by simpa using h2) hk; omega, okU_chkL _ _ _ _ _ h⟩
theorem okU_chkL : ∀ (o : Bool) (ns seen : List ByteArray) (is : List JV) (d : Int), chkL o ns seen is d = 0 → okUs is
  | _, _, _, [], _, _ => by rw [okUs]; trivial
  | o, ns, seen, t :: r, d, h => by
    rw [chkL] at h
    rw [okUs]
    split at h
    · exact absurd h (by decide)
    · split at h
      · exact absurd h (by decide)
      · split at h
        · rename_i h3
          exact ⟨okU_chk t (d + 1) h3, okU_chkL _ _ _ _ _ h⟩
        · contradiction
end
theorem strs_bulk {ns : List ByteArray} {s : ByteArray} (h : s ∈ ns) : s.size ≤ strsBulk ns := by
  induction ns with
  | nil => cases h
  | cons x r ih =>
    rcases List.mem_cons.1 h with rfl | h
    · simp only [strsBulk]; omega
    · have := ih h; simp only [strsBulk]; omega
end Go.Proofs.YtnmojmmgkipjcaaGreatDoor
namespace Go.Proofs.YtnmojmmgkipjcaaGreatDoor
open Go.RowKit
/-- the reader's struct -/
def RdrAt (w : World) (R n : Nat) : Prop := w.heap[R]? = some (.cells #[.int .i64 (n : Int)] 62 (0, 0))
theorem RdrAt.cells {w : World} {R n : Nat} (h : RdrAt w R n) : w.cell? ⟨R, 0, none⟩ = some (.int .i64 (n : Int)) ∧ w.frozen? ⟨R, 0, none⟩ = false ∧ R < w.heap.size :=
  ⟨cell_of_row _ _ _ _ _ _ h, frozen_of_row _ _ _ _ _ h, (Array.getElem?_eq_some_iff.1 h).1⟩
theorem RdrAt.below {w w' : World} {R n : Nat} (h : RdrAt w R n) (hb : Below w.heap.size w w') : RdrAt w' R n := (hb.block R h.cells.2.2).trans h
theorem RdrAt.setN {w : World} {R n : Nat} (h : RdrAt w R n) (m : Nat) : RdrAt (w.setCell ⟨R, 0, none⟩ (.int .i64 (m : Int))) R m := heap_setCell_same w R 0 _ _ _ h
/-- what was let, and what is new -/
abbrev OkN (ok : Nat → Prop) (w : World) : Nat → Prop := fun b => ok b ∨ w.heap.size ≤ b
/-- what was let below B, and what is new but for the blocks F that are still written -/
def OkE (ok : Nat → Prop) (B : Nat) (F : Nat → Prop) (b : Nat) : Prop := (ok b ∧ b < B) ∨ (B ≤ b ∧ ¬ F b)
/-- what holds over memory is kept where its blocks stay -/
def Keeps (K : World → (Nat → Prop) → Prop) : Prop := ∀ (w w' : World) (ok ok' : Nat → Prop), (∀ b, b < w.heap.size → ok b → ok' b ∧ w'.heap[b]? = w.heap[b]?) → K w ok → K w' ok'
theorem keepE {K : World → (Nat → Prop) → Prop} (hK : Keeps K) {ok : Nat → Prop} {B : Nat} {F F' : Nat → Prop} {w w' : World} {r r' : Option Nat} (h : K w (OkE ok B F)) (hu : Upd w w' r r')
    (hr : ∀ g, r = some g → (F g ∧ B ≤ g) ∨ (g < B ∧ ¬ ok g)) (hF : ∀ b, b < w.heap.size → F' b → F b) : K w' (OkE ok B F') :=
  hK _ _ _ _ (fun b hlt ho => ⟨ho.imp id (fun h => ⟨h.1, fun hf => h.2 (hF b hlt hf)⟩), hu.block hlt (fun e => by
    rcases hr b e with ⟨h1, h2⟩ | ⟨h1, h2⟩ <;> rcases ho with ⟨h3, h4⟩ | ⟨h3, h4⟩
    · omega
    · exact h4 h1
    · exact h2 h3
    · omega)⟩) h
theorem toE {K : World → (Nat → Prop) → Prop} (hK : Keeps K) {ok : Nat → Prop} {B : Nat} {F : Nat → Prop} {w w0 : World} (h : K w (OkN (fun b => ok b ∧ b < B) w0)) (hB : B ≤ w0.heap.size) (hF : ∀ b, F b → b < w0.heap.size) : K w (OkE ok B F) :=
  hK _ _ _ _ (fun b _ ho => ⟨ho.imp id (fun h => ⟨by omega, fun hf => by have := hF b hf; omega⟩), rfl⟩) h
theorem ofE {K : World → (Nat → Prop) → Prop} (hK : Keeps K) {ok : Nat → Prop} {F : Nat → Prop} {w w0 : World} (h : K w (OkE ok w0.heap.size F)) : K w (OkN ok w0) :=
  hK _ _ _ _ (fun _ _ ho => ⟨ho.imp (fun h => h.1) (fun h => h.1), rfl⟩) h
/-- pointers to schemas, in a list of values -/
def PtrsV (w : World) (ok : Nat → Prop) : List JV → List Value → Prop
  | [], xs => xs = []
  | x :: r, xs => ∃ q ys, xs = q :: ys ∧ SchAt w ok x q ∧ PtrsV w ok r ys
theorem ptrs_keeps (l : List JV) (xs : List Value) : Keeps (fun w ok => PtrsV w ok l xs) := by
  intro w w' ok ok' hk h
  induction l generalizing xs with
  | nil => exact h
  | cons x r ih =>
    obtain ⟨q, ys, e, h1, h2⟩ := h
    exact ⟨q, ys, e, SchAt.kept hk x q h1, ih ys h2⟩
theorem sch_keeps (t : JV) (q : Value) : Keeps (fun w ok => SchAt w ok t q) := fun _ _ _ _ hk h => SchAt.kept hk t q h
theorem PtrsV.snoc {w : World} {ok : Nat → Prop} {t : JV} {q : Value} (ht : SchAt w ok t q) : ∀ {l : List JV} {xs : List Value}, PtrsV w ok l xs → PtrsV w ok (l ++ [t]) (xs ++ [q])
  | [], xs, h => by rw [PtrsV] at h; subst h; exact ⟨q, [], rfl, ht, rfl⟩
  | u :: r, xs, h => by
    obtain ⟨p, ys, rfl, h1, h2⟩ := h
    exact ⟨p, ys ++ [q], rfl, h1, PtrsV.snoc ht h2⟩
theorem PtrsV.lie {w : World} {ok : Nat → Prop} {b : Nat} : ∀ {l : List JV} {xs : List Value} {off : Nat}, PtrsV w ok l xs → Lie w b off xs → PtrsAt w ok l b off
  | [], _, _, _, _ => by rw [PtrsAt]; trivial
  | t :: r, xs, off, ⟨q, ys, e, h1, h2⟩, hl => by
    subst e
    rw [PtrsAt]
    refine ⟨⟨q, hl 0 q rfl, h1⟩, PtrsV.lie h2 fun j v hj => ?_⟩
    have := hl (j + 1) v (by simpa using hj)
    rwa [show off + (j + 1) = off + 1 + j by omega] at this
theorem PtrsV.len {w : World} {ok : Nat → Prop} : ∀ {l : List JV} {xs : List Value}, PtrsV w ok l xs → xs.length = l.length
  | [], _, h => by rw [PtrsV] at h; rw [h]; rfl
  | _ :: _, _, ⟨_, _, e, _, h2⟩ => by rw [e, List.length_cons, List.length_cons, h2.len]
/-- a slice of pointers to schemas -/
abbrev PtrsL (w : World) (ok : Nat → Prop) (a : Option Addr) (is : List JV) : Prop := is.length = 0 ∨ ∃ b, a = some ⟨b, 0, none⟩ ∧ ok b ∧ b < w.heap.size ∧ PtrsAt w ok is b 0
theorem row_ptrs {w : World} {ok : Nat → Prop} {E : TypeId} {v : Value} {l : List JV} {xs : List Value} (h : Row w E 1 v l.length xs) (hp : PtrsV w ok l xs) (ho : ∀ g, v.ownBlock = some g → ok g) :
    ∃ a c, v = .slice a l.length c ∧ l.length ≤ c ∧ c ≤ maxLen ∧ PtrsL w ok a l := by
  obtain ⟨a, cap, rfl, h1, h2, h3⟩ := h.form
  refine ⟨a, cap, rfl, h1, h2, ?_⟩
  rcases h3 with ⟨rfl, h3, _⟩ | ⟨g, rfl, h3, h5, h4⟩
  · exact .inl h3
  · exact .inr ⟨g, rfl, ho g h3, h5, hp.lie h4⟩
theorem ptrTy : SlTy Tryz.prog 106 39 (.pointer none) 1 8 := ⟨by kernel_rfl, by kernel_rfl, by kernel_rfl, by decide⟩
/-- what the reader of one comes to -/
def SRes (w : World) (R : Nat) (ok : Nat → Prop) (t : JV) (n : Nat) : RS → Ending → World → Prop
  | .ok m, e, w' => ∃ p : Nat, e = .returned (.pointer (some ⟨p, 0, none⟩)) ∧ Hid (SchAt w' (OkN ok w) t (.pointer (some ⟨p, 0, none⟩))) ∧ Hid (w'.cell? ⟨p, 1, none⟩ = some (.int .i64 ((m : Int) - n))) ∧ Hid (RdrAt w' R m) ∧ Hid (Upd w w' (some R) (some R))
  | .bad E, e, w' => e = refV E ∧ Hid (Upd w w' (some R) (some R))
def SchemaSaid (m : Nat) : Prop := ∀ (t : JV), t.size ≤ m → okU t → t.bulk ≤ 1099511627776 → ∀ (d n : Nat), d ≤ 9 → n ≤ 128 → ∀ (cs : List Value) (w : World) (ok : Nat → Prop) (R : Nat), ¬ ok R → Rep w ok t cs → RdrAt w R n →
  Calls Tryz.prog 25 #[.pointer (some ⟨R, 0, none⟩), .agg cs.toArray, .int .i64 (d : Int)] w (SRes w R ok t n (readS t d n))
/-- what the reader of several comes to -/
def LRes (w : World) (R : Nat) (ok : Nat → Prop) (is : List JV) : RS → Ending → World → Prop
  | .ok m, e, w' => ∃ a c, e = .returned (.slice a is.length c) ∧ is.length ≤ c ∧ c ≤ maxLen ∧ Hid (PtrsL w' (OkN ok w) a is) ∧ Hid (RdrAt w' R m) ∧ Hid (Upd w w' (some R) (some R))
  | .bad E, e, w' => e = refV E ∧ Hid (Upd w w' (some R) (some R))
def sevR (t : JV) (d n : Nat) : RS := if t.kind = 5 ∧ t.items ≠ [] then readList t.items (d + 1) n else .bad 210
/-- a list of pointers under way -/
structure LstAt (w0 : World) (ok : Nat → Prop) (F : Nat → Prop) (is : List JV) (v : Value) (xs : List Value) (wr : World) : Prop where
  row : Row wr 39 1 v is.length xs
  own : ∀ g, v.ownBlock = some g → w0.heap.size ≤ g
  ptrs : PtrsV wr (OkE ok w0.heap.size (fun b => v.ownBlock = some b ∨ F b)) is xs
theorem LstAt.start (w0 wr : World) (ok F : Nat → Prop) : LstAt w0 ok F [] (.slice none 0 0) [] wr := ⟨row_nil _ _ _, fun g h => (by cases h), rfl⟩
/-- elsewhere something turned -/
theorem LstAt.move {w0 wr w' : World} {ok F : Nat → Prop} {is : List JV} {v : Value} {xs : List Value} {r : Nat} (h : LstAt w0 ok F is v xs wr) (hu : Upd wr w' (some r) (some r)) (hr : (F r ∧ w0.heap.size ≤ r) ∨ (r < w0.heap.size ∧ ¬ ok r)) (hv : v.ownBlock ≠ some r) : LstAt w0 ok F is v xs w' :=
  ⟨h.row.kept hu (.inr hv), h.own, keepE (ptrs_keeps is xs) h.ptrs hu (fun g e => by injection e with e; subst e; exact hr.imp (fun h => ⟨.inr h.1, h.2⟩) id) (fun _ _ h => h)⟩
theorem LstAt.below {w0 wr w' : World} {ok F : Nat → Prop} {is : List JV} {v : Value} {xs : List Value} (h : LstAt w0 ok F is v xs wr) (hb : Below wr.heap.size wr w') : LstAt w0 ok F is v xs w' :=
  ⟨h.row.below hb, h.own, keepE (ptrs_keeps is xs) h.ptrs (Upd.of_below hb none) (fun g e => by cases e) (fun _ _ h => h)⟩
/-- one more: q was made behind wp -/
theorem LstAt.push {w0 wp wr w' : World} {ok F : Nat → Prop} {is : List JV} {v v' : Value} {xs : List Value} {t : JV} {q : Value} (h : LstAt w0 ok F is v xs wr) (hp : w0.heap.size ≤ wp.heap.size) (hvp : ∀ g, v.ownBlock = some g → g < wp.heap.size) (hF : ∀ b, F b → b < wp.heap.size) (hpr : wp.heap.size ≤ wr.heap.size)
    (hq : SchAt wr (OkN (fun b => ok b ∧ b < w0.heap.size) wp) t q) (hr : Row w' 39 1 v' (is.length + 1) (xs ++ [q])) (hu : Upd wr w' v.ownBlock v'.ownBlock) : LstAt w0 ok F (is ++ [t]) v' (xs ++ [q]) w' := by
  have ho : ∀ g, v'.ownBlock = some g → v.ownBlock = some g ∨ wr.heap.size ≤ g := fun g hg => by
    rcases hu.own with e | ⟨g', e, hg'⟩
    · exact .inl (e ▸ hg)
    · rw [e] at hg; injection hg with hg; subst hg; exact .inr hg'
  refine ⟨by rw [List.length_append]; exact hr, fun g hg => ?_, ?_⟩
  · rcases ho g hg with h1 | h1
    · exact h.own g h1
    · omega
  · refine keepE (F := fun b => v.ownBlock = some b ∨ F b) (ptrs_keeps (is ++ [t]) (xs ++ [q])) (PtrsV.snoc ?_ h.ptrs) hu (fun g e => .inl ⟨.inl e, h.own g e⟩) (fun b hb hf => ?_)
    · exact toE (sch_keeps t q) hq hp (fun b hb => by rcases hb with hb | hb; exact hvp b hb; exact hF b hb)
    · rcases hf with hf | hf
      · rcases ho b hf with h1 | h1
        · exact .inl h1
        · omega
      · exact .inr hf
theorem lres_bad {w W : World} {R E : Nat} {ok : Nat → Prop} {is : List JV} {r : RS} (h : r = .bad E) (hu : Upd w W (some R) (some R)) : LRes w R ok is r (refV E) W := by
  subst h; exact ⟨rfl, Lib.hid hu⟩
theorem lres_ok {w W : World} {R m : Nat} {ok : Nat → Prop} {is : List JV} {r : RS} {v : Value} {xs : List Value} (h : r = .ok m) (hl : LstAt w ok (fun _ => False) is v xs W) (hr : RdrAt W R m) (hu : Upd w W (some R) (some R)) : LRes w R ok is r (.returned v) W := by
  subst h
  have hp := ofE (ptrs_keeps is xs) hl.ptrs
  obtain ⟨a, c, rfl, h1, h2, h3⟩ := row_ptrs hl.row hp (fun g hg => .inr (hl.own g hg))
  exact ⟨a, c, rfl, h1, h2, Lib.hid h3, Lib.hid hr, Lib.hid hu⟩
set_option maxRecDepth 20000 in
set_option maxHeartbeats 8000000 in
theorem several_c (m : Nat) (ih : SchemaSaid m) (t : JV) (hm : t.size ≤ m + 1) (hok : okU t) (hbk : t.bulk ≤ 1099511627776) (d n : Nat) (hd : d ≤ 8) (hn : n ≤ 128) (cs : List Value) (w : World) (ok : Nat → Prop) (R : Nat) (hC : ¬ ok R) (hr : Rep w ok t cs) (hc : RdrAt w R n) :
    Calls Tryz.prog 79 #[.pointer (some ⟨R, 0, none⟩), .agg cs.toArray, .int .i64 (d : Int)] w (LRes w R ok t.items (sevR t d n)) := by
  obtain ⟨k, i, s, ns, is⟩ := t
  rw [rep_mk] at hr
  obtain ⟨_, _, _, an, cn, ai, ci, rfl, _, hci, _, hit⟩ := hr
  unfold maxLen at hci
  rw [okU] at hok
  have hlen := len_bulk hbk
  have hbb : ∀ x ∈ is, x.bulk ≤ 1099511627776 := fun x hx => by rw [JV.bulk] at hbk; have := JV.bulk_le hx; omega
  have hsz : ∀ x ∈ is, x.size ≤ m := fun x hx => by have h1 := JV.size_le hx; rw [JV.size] at hm; omega
  have hb0 : Below w.heap.size w (w.alloc (.cells #[.int .i64 k, .int .i64 i, .string s, .slice an ns.length cn, .slice ai is.length ci] 25)) := (Below.refl _ _).alloc (Nat.le_refl _) _
  have HIT := Lib.hid (hit.kept (ok' := fun b => ok b ∧ b < w.heap.size) (fun b hlt ho => ⟨⟨ho, hlt⟩, rfl⟩))
  have HB0 := Lib.hid hb0
  have HRD := Lib.hid (hc.below hb0)
  have HX := Lib.hid (heap_alloc_new w (.cells #[.int .i64 k, .int .i64 i, .string s, .slice an ns.length cn, .slice ai is.length ci] 25))
  have hRl := hc.cells.2.2
  have HIH := Lib.hid ih
  have HOK := Lib.hid hok
  have HBB := Lib.hid hbb
  have HSZ := Lib.hid hsz
  have HNC := Lib.hid hC
  have HNC1 := Lib.hid (show ¬ (ok R ∧ R < w.heap.size) from fun h => hC h.1)
  clear hit hb0 hc ih hok hbb hsz hC hm hbk
  by_cases h5 : k = 5
  case neg =>
    have HT := Lib.hid (show sevR (.mk k i s ns is) d n = RS.bad 210 from if_neg (fun h => h5 h.1))
    have e5 : (k == 5) = false := by simp [h5]
    clear h5
    go_enter Tryz.func79, Tryz.ntmps79
    go_wp2_with fail
    refine (need_f _).mono ?_; rintro e w' ⟨rfl, rfl⟩
    unfold refV
    go_wp2
    exact ⟨rfl, lres_bad HT.out (Upd.of_below HB0.out _)⟩
  subst h5
  by_cases h0 : 0 < is.length
  case neg =>
    have HT := Lib.hid (show sevR (.mk 5 i s ns is) d n = RS.bad 210 from if_neg (fun h => h0 (List.length_pos_iff.2 h.2)))
    have HN := Lib.hid (fun (W : World) => (show Calls Tryz.prog 30 #[.bool (decide (0 < is.length))] W (fun r w' => r = refV 210 ∧ W = w') from by rw [decide_eq_false h0]; exact need_f W))
    clear h0
    go_enter Tryz.func79, Tryz.ntmps79
    go_wp2_with fail
    refine (HN.out _).mono ?_; rintro e w' ⟨rfl, rfl⟩
    unfold refV
    go_wp2
    exact ⟨rfl, lres_bad HT.out (Upd.of_below HB0.out _)⟩
  have HT := Lib.hid (show sevR (.mk 5 i s ns is) d n = readList is (d + 1) n from if_pos ⟨rfl, List.length_pos_iff.1 h0⟩)
  have HN := Lib.hid (fun (W : World) => (show Calls Tryz.prog 30 #[.bool (decide (0 < is.length))] W (fun r w' => r = .returned (.tuple #[]) ∧ W = w') from by rw [decide_eq_true h0]; exact need_t W))
  clear h0
  go_enter Tryz.func79, Tryz.ntmps79
  go_wp2_with (go_at_call 30; refine (HN.out _).mono ?_; rintro e w' ⟨rfl, rfl⟩)
  go_loopw [7, 23] (fun o q wr => ∃ (j p : Nat) (xs : List Value), j ≤ is.length ∧ q = .int .i64 j ∧ p ≤ 128 ∧ Hid (RdrAt wr R p) ∧ Hid (LstAt w ok (fun _ => False) (is.take j) o xs wr) ∧ Hid (Upd w wr (some R) (some R)) ∧ Hid (readList is (d + 1) n = readList (is.drop j) (d + 1) p)) (fun _ q _ => is.length - (intOf q).toNat)
  case atStart => exact ⟨0, n, [], Nat.zero_le _, rfl, hn, HRD, Lib.hid (LstAt.start _ _ _ _), Lib.hid (Upd.of_below HB0.out _), Lib.hid rfl⟩
  case round =>
    obtain ⟨j, p, xs, hj, rfl, hp, HR, HL, HU, HQ⟩ := hrel
    have hsz := HU.out.grown.size
    have hRr := HR.out.cells.2.2
    by_cases hlt : j < is.length
    · obtain ⟨b2, off2, an2, cn2, ai2, ci2, rfl, hrj, hlj⟩ := (HIT.out.upd HNC1.out HU.out).at j hlt
      obtain ⟨l0, l1, l2, l3, l4⟩ := lie5 hlj
      have hb0 := cell_lt l0
      simp only at hb0
      have HQ2 := Lib.hid (show readList is (d + 1) n = match readS is[j] (d + 1) p with | .bad e => .bad e | .ok m => readList (is.drop (j + 1)) (d + 1) m by rw [HQ.out, List.drop_eq_getElem_cons hlt, readList]; rfl)
      have HTK := Lib.hid (show is.take (j + 1) = is.take j ++ [is[j]] from List.take_succ_eq_append_getElem hlt)
      have HSL := Lib.hid (readS_le is[j] (d + 1) p)
      have hcall := fun (W : World) (hbW : Below wr.heap.size wr W) => HIH.out is[j] (HSZ.out _ (List.getElem_mem hlt)) (okUs_at HOK.out.2 j hlt) (HBB.out _ (List.getElem_mem hlt)) (d + 1) p (by omega) hp _ W _ R HNC1.out (hrj.below hbW) (HR.out.below hbW)
      have HTL := Lib.hid (show (is.take j).length = j from List.length_take_of_le hj)
      have HBA := Lib.hid (show Below wr.heap.size wr (wr.alloc (.cells #[.int .i64 is[j].kind, .int .i64 is[j].int, .string is[j].text, .slice an2 is[j].names.length cn2, .slice ai2 is[j].items.length ci2] 25)) from (Below.refl _ _).alloc (Nat.le_refl _) _)
      rw [show ((d + 1 : Nat) : Int) = (d : Int) + 1 by omega] at hcall
      clear HQ hrj hlj
      generalize is.take j = L at *
      cases hrs : readS is[j] (d + 1) p with
      | bad E =>
        rw [hrs] at hcall HQ2
        have HC := Lib.hid hcall
        have HT2 := Lib.hid (HT.out.trans HQ2.out)
        clear hcall hrs HSL HTK HQ2
        generalize is[j] = y at *
        go_wp2_with fail
        refine (HC.out _ (by repeat (first | with_reducible exact Below.refl _ _ | with_reducible refine below_drewN ?_ _ | with_reducible refine Below.drew ?_ | with_reducible refine below_set5 ?_ (by first | (simp; done) | (simp; omega)) | with_reducible refine Below.alloc ?_ (by first | (simp; done) | (simp; omega)) _ | with_reducible refine Below.setCell ?_ (by first | (simp; done) | (simp; omega)) _))).mono ?_; rintro e w2 ⟨rfl, HU2⟩
        unfold refV
        go_wp2
        exact ⟨rfl, lres_bad HT2.out (HU.out.trans ((Upd.of_below HBA.out _).trans HU2.out))⟩
      | ok m2 =>
        rw [hrs] at hcall HQ2
        have hm2 := (HSL.out m2 hp hrs).2
        have HC := Lib.hid hcall
        clear hcall hrs HSL
        generalize is[j] = y at *
        obtain ⟨oa, oc, rfl, _⟩ := HL.out.row.form
        go_wp2_with fail
        refine (HC.out _ (by repeat (first | with_reducible exact Below.refl _ _ | with_reducible refine below_drewN ?_ _ | with_reducible refine Below.drew ?_ | with_reducible refine below_set5 ?_ (by first | (simp; done) | (simp; omega)) | with_reducible refine Below.alloc ?_ (by first | (simp; done) | (simp; omega)) _ | with_reducible refine Below.setCell ?_ (by first | (simp; done) | (simp; omega)) _))).mono ?_; rintro e w2 ⟨pp, rfl, HS2, -, HR2, HU2⟩
        have hg2 := HU2.out.grown.size
        simp only [World.size_alloc] at hg2
        have hRo : (Value.slice oa L.length oc).ownBlock ≠ some R := fun e => by have := HL.out.own R e; omega
        have HL2 := Lib.hid ((HL.out.below HBA.out).move HU2.out (.inr ⟨hRl, HNC.out⟩) hRo)
        clear hRo l0 l1 l2 l3 l4
        have hS3 := HS2.out
        have hbw := (Below.refl w2.heap.size w2).alloc (Nat.le_refl _) (.cells #[.pointer (some ⟨pp, 0, none⟩)] 39)
        have HS3 := Lib.hid (sch_keeps y _ _ _ _ _ (fun b hlt ho => ⟨ho, hbw.block b hlt⟩) hS3)
        have HL3 := Lib.hid (HL2.out.below hbw)
        have HBW := Lib.hid hbw
        have hll := HTL.out
        clear hS3 hbw
        have HPN := Lib.hid (World.news_of_block (heap_alloc_new w2 (.cells #[.pointer (some ⟨pp, 0, none⟩)] 39)))
        have HLN := Lib.hid (show L.length + 1 ≤ 1099511627776 by omega)
        have HVO := Lib.hid (show ∀ g, (Value.slice oa L.length oc).ownBlock = some g → g < (wr.alloc (.cells #[.int .i64 y.kind, .int .i64 y.int, .string y.text, .slice an2 y.names.length cn2, .slice ai2 y.items.length ci2] 25)).heap.size from fun g hg => by have := HL.out.row.lt hg; simp only [World.size_alloc]; omega)
        clear hll
        go_wp2_with (at_builtin; refine wpList_app ptrTy rfl _ _ rfl (.slice oa L.length oc) L.length xs rfl HL3.out.row ⟨w2.heap.size, 0, none⟩ 1 1 [.pointer (some ⟨pp, 0, none⟩)] rfl rfl HPN.out (by simp [Value.oneCell']) (by have := HLN.out; unfold maxLen; omega) (by have := HLN.out; omega) ?_; intro v' w3 hrow hu; have HL4 := Lib.hid (HL3.out.push (wp := wr.alloc (.cells #[.int .i64 y.kind, .int .i64 y.int, .string y.text, .slice an2 y.names.length cn2, .slice ai2 y.items.length ci2] 25)) (by simp only [World.size_alloc]; omega) HVO.out (fun _ h => h.elim) (by simp only [World.size_alloc]; omega) HS3.out hrow hu); have HR4 := Lib.hid (show RdrAt w3 R m2 from (hu.block (HR2.out.below HBW.out).cells.2.2 (fun e => by have := HL.out.own R e; omega)).trans (HR2.out.below HBW.out)); have HU4 := Lib.hid (show Below w.heap.size w2 w3 from (HBW.out.mono (by omega)).trans (hu.below (by simp only [World.size_alloc]; omega) HL.out.own)); clear hrow hu)
        go_roundw
        case rel => exact ⟨j + 1, m2, _, by omega, by go_num, hm2, HR4, by rw [HTK.out]; exact HL4, Lib.hid (Upd.trans_below (HU.out.trans ((Upd.of_below HBA.out _).trans HU2.out)) HU4.out), HQ2⟩
        case measure => simp [intOf]; omega
    · obtain rfl : j = is.length := by omega
      have HT2 := Lib.hid (show sevR (.mk 5 i s ns is) d n = .ok p from HT.out.trans (by rw [HQ.out, List.drop_length, readList]))
      go_wp2
      go_ret
      exact lres_ok HT2.out (by have h := HL.out; rw [List.take_length] at h; exact h) HR.out HU.out
end Go.Proofs.YtnmojmmgkipjcaaGreatDoor
namespace Go.Proofs.YtnmojmmgkipjcaaGreatDoor
open Go.RowKit
/-- what the maker of a rule comes to -/
def RRes (w : World) (R : Nat) (ok : Nat → Prop) (x : JV) (nm : ByteArray) (kn : JV) : RS → Ending → World → Prop
  | .ok m, e, w' => ∃ rv, e = .returned rv ∧ Hid (RuleAt w' (OkN ok w) x nm kn rv) ∧ Hid (RdrAt w' R m) ∧ Hid (Upd w w' (some R) (some R))
  | .bad E, e, w' => e = refV E ∧ Hid (Upd w w' (some R) (some R))
theorem rres_bad {w W : World} {R E : Nat} {ok : Nat → Prop} {x kn : JV} {nm : ByteArray} {r : RS} (h : r = .bad E) (hu : Upd w W (some R) (some R)) : RRes w R ok x nm kn r (refV E) W := by
  subst h; exact ⟨rfl, Lib.hid hu⟩
theorem rres_ok {w W : World} {R m : Nat} {ok : Nat → Prop} {x kn : JV} {nm : ByteArray} {r : RS} {rv : Value} (h : r = .ok m) (ha : RuleAt W (OkN ok w) x nm kn rv) (hr : RdrAt W R m) (hu : Upd w W (some R) (some R)) : RRes w R ok x nm kn r (.returned rv) W := by
  subst h; exact ⟨rv, rfl, Lib.hid ha, Lib.hid hr, Lib.hid hu⟩
theorem okn_mono {K : World → (Nat → Prop) → Prop} (hK : Keeps K) {ok : Nat → Prop} {w w0 w1 : World} (h : K w (OkN ok w1)) (hs : w0.heap.size ≤ w1.heap.size) : K w (OkN ok w0) :=
  hK _ _ _ _ (fun _ _ ho => ⟨ho.imp id (fun h => Nat.le_trans hs h), rfl⟩) h
theorem ptrsL_keeps (a : Option Addr) (l : List JV) : Keeps (fun w ok => PtrsL w ok a l) := by
  intro w w' ok ok' hk h
  rcases h with h | ⟨b, e, h1, h2, h3⟩
  · exact .inl h
  · obtain ⟨k1, k2⟩ := hk b h2 h1
    exact .inr ⟨b, e, k1, lt_same h2 k2, PtrsAt.kept hk l b 0 k2 h3⟩
theorem below_keeps {K : World → (Nat → Prop) → Prop} (hK : Keeps K) {ok : Nat → Prop} {w w' : World} (h : K w ok) (hb : Below w.heap.size w w') : K w' ok :=
  hK _ _ _ _ (fun b hlt ho => ⟨ho, hb.block b hlt⟩) h
set_option maxRecDepth 20000 in
set_option maxHeartbeats 4000000 in
theorem makeAny_c (m : Nat) (ih : SchemaSaid m) (d n : Nat) (hd : d ≤ 8) (hn : n ≤ 128) (whole x kn : JV) (hm : x.size ≤ m + 1) (hok : okU x) (hbk : x.bulk ≤ 1099511627776) (ws cs : List Value) (w : World) (ok : Nat → Prop) (R : Nat) (hC : ¬ ok R) (hw : Rep w ok whole ws) (hr : Rep w ok x cs) (hc : RdrAt w R n) :
    Calls Tryz.prog 56 #[.pointer (some ⟨R, 0, none⟩), .agg ws.toArray, .agg cs.toArray, .int .i64 (d : Int)] w (RRes w R ok x ⟨#[97, 110, 121, 79, 102]⟩ kn (readRule x ⟨#[97, 110, 121, 79, 102]⟩ d n)) := by
  have hb0 : ∀ (wn wi an ai : Option Addr) (wc wd cn ci : Nat), Below w.heap.size w ((w.alloc (.cells #[.int .i64 whole.kind, .int .i64 whole.int, .string whole.text, .slice wn whole.names.length wc, .slice wi whole.items.length wd] 25)).alloc (.cells #[.int .i64 x.kind, .int .i64 x.int, .string x.text, .slice an x.names.length cn, .slice ai x.items.length ci] 25)) := fun _ _ _ _ _ _ _ _ => (by repeat (first | with_reducible exact Below.refl _ _ | with_reducible refine below_drewN ?_ _ | with_reducible refine Below.drew ?_ | with_reducible refine below_set5 ?_ (by first | (simp; done) | (simp; omega)) | with_reducible refine Below.alloc ?_ (by first | (simp; done) | (simp; omega)) _ | with_reducible refine Below.setCell ?_ (by first | (simp; done) | (simp; omega)) _))
  obtain ⟨wn, wc, wi, wd, rfl⟩ := hw.form
  have hr2 := hr
  obtain ⟨an, cn, ai, ci, rfl⟩ := hr.form
  have hb := hb0 wn wi an ai wc wd cn ci
  have hCL := several_c m ih x hm hok hbk d n hd hn _ ((w.alloc (.cells #[.int .i64 whole.kind, .int .i64 whole.int, .string whole.text, .slice wn whole.names.length wc, .slice wi whole.items.length wd] 25)).alloc (.cells #[.int .i64 x.kind, .int .i64 x.int, .string x.text, .slice an x.names.length cn, .slice ai x.items.length ci] 25)) ok R hC (hr2.below hb) (hc.below hb)
  have HB := Lib.hid hb
  clear hb0 hb hw hr hr2 hc hC ih hm hok hbk
  have HT := Lib.hid (show readRule x ⟨#[97, 110, 121, 79, 102]⟩ d n = sevR x d n by cases x; rw [readRule, if_neg (by decide), if_pos (by decide)]; rfl)
  cases hrs : sevR x d n with
  | bad E =>
    rw [hrs] at hCL
    have HC := Lib.hid hCL
    have HT2 := Lib.hid (HT.out.trans hrs)
    clear hCL hrs
    go_enter Tryz.func56, Tryz.ntmps56
    go_wp2_with fail
    refine HC.out.mono ?_; rintro e w2 ⟨rfl, HU2⟩
    unfold refV
    go_wp2
    exact ⟨rfl, rres_bad HT2.out ((Upd.of_below HB.out _).trans HU2.out)⟩
  | ok m2 =>
    rw [hrs] at hCL
    have HC := Lib.hid hCL
    have HT2 := Lib.hid (HT.out.trans hrs)
    clear hCL hrs
    go_enter Tryz.func56, Tryz.ntmps56
    go_wp2_with fail
    refine HC.out.mono ?_; rintro e w2 ⟨a, c, rfl, hc1, hc2, HP2, HR2, HU2⟩
    have HCC := Lib.hid (And.intro hc1 hc2)
    clear hc1 hc2
    go_wp2
    go_ret
    have hbw : Below w2.heap.size w2 (w2.alloc (.cells #[.slice a x.items.length c] 106)) := (Below.refl _ _).alloc (Nat.le_refl _) _
    have hg := HU2.out.grown.size
    simp only [World.size_alloc] at hg
    refine rres_ok HT2.out ?_ (HR2.out.below hbw) (((Upd.of_below HB.out _).trans HU2.out).trans_below (hbw.mono (by omega)))
    have hp := okn_mono (w0 := w) (ptrsL_keeps a x.items) (below_keeps (ptrsL_keeps a x.items) HP2.out hbw) (by simp only [World.size_alloc]; omega)
    have hx := heap_alloc_new w2 (.cells #[.slice a x.items.length c] 106)
    obtain ⟨k, i, s, ns, is⟩ := x
    rw [RuleAt, if_neg (by decide), if_pos (by decide)]
    exact ⟨_, a, c, rfl, ⟨.inr (by omega), hx⟩, HCC.out.1, HCC.out.2, hp⟩
set_option maxRecDepth 20000 in
set_option maxHeartbeats 4000000 in
theorem makeAll_c (m : Nat) (ih : SchemaSaid m) (d n : Nat) (hd : d ≤ 8) (hn : n ≤ 128) (whole x kn : JV) (hm : x.size ≤ m + 1) (hok : okU x) (hbk : x.bulk ≤ 1099511627776) (ws cs : List Value) (w : World) (ok : Nat → Prop) (R : Nat) (hC : ¬ ok R) (hw : Rep w ok whole ws) (hr : Rep w ok x cs) (hc : RdrAt w R n) :
    Calls Tryz.prog 57 #[.pointer (some ⟨R, 0, none⟩), .agg ws.toArray, .agg cs.toArray, .int .i64 (d : Int)] w (RRes w R ok x ⟨#[97, 108, 108, 79, 102]⟩ kn (readRule x ⟨#[97, 108, 108, 79, 102]⟩ d n)) := by
  have hb0 : ∀ (wn wi an ai : Option Addr) (wc wd cn ci : Nat), Below w.heap.size w ((w.alloc (.cells #[.int .i64 whole.kind, .int .i64 whole.int, .string whole.text, .slice wn whole.names.length wc, .slice wi whole.items.length wd] 25)).alloc (.cells #[.int .i64 x.kind, .int .i64 x.int, .string x.text, .slice an x.names.length cn, .slice ai x.items.length ci] 25)) := fun _ _ _ _ _ _ _ _ => (by repeat (first | with_reducible exact Below.refl _ _ | with_reducible refine below_drewN ?_ _ | with_reducible refine Below.drew ?_ | with_reducible refine below_set5 ?_ (by first | (simp; done) | (simp; omega)) | with_reducible refine Below.alloc ?_ (by first | (simp; done) | (simp; omega)) _ | with_reducible refine Below.setCell ?_ (by first | (simp; done) | (simp; omega)) _))
  obtain ⟨wn, wc, wi, wd, rfl⟩ := hw.form
  have hr2 := hr
  obtain ⟨an, cn, ai, ci, rfl⟩ := hr.form
  have hb := hb0 wn wi an ai wc wd cn ci
  have hCL := several_c m ih x hm hok hbk d n hd hn _ ((w.alloc (.cells #[.int .i64 whole.kind, .int .i64 whole.int, .string whole.text, .slice wn whole.names.length wc, .slice wi whole.items.length wd] 25)).alloc (.cells #[.int .i64 x.kind, .int .i64 x.int, .string x.text, .slice an x.names.length cn, .slice ai x.items.length ci] 25)) ok R hC (hr2.below hb) (hc.below hb)
  have HB := Lib.hid hb
  clear hb0 hb hw hr hr2 hc hC ih hm hok hbk
  have HT := Lib.hid (show readRule x ⟨#[97, 108, 108, 79, 102]⟩ d n = sevR x d n by cases x; rw [readRule, if_neg (by decide), if_pos (by decide)]; rfl)
  cases hrs : sevR x d n with
  | bad E =>
    rw [hrs] at hCL
    have HC := Lib.hid hCL
    have HT2 := Lib.hid (HT.out.trans hrs)
    clear hCL hrs
    go_enter Tryz.func57, Tryz.ntmps57
    go_wp2_with fail
    refine HC.out.mono ?_; rintro e w2 ⟨rfl, HU2⟩
    unfold refV
    go_wp2
    exact ⟨rfl, rres_bad HT2.out ((Upd.of_below HB.out _).trans HU2.out)⟩
  | ok m2 =>
    rw [hrs] at hCL
    have HC := Lib.hid hCL
    have HT2 := Lib.hid (HT.out.trans hrs)
    clear hCL hrs
    go_enter Tryz.func57, Tryz.ntmps57
    go_wp2_with fail
    refine HC.out.mono ?_; rintro e w2 ⟨a, c, rfl, hc1, hc2, HP2, HR2, HU2⟩
    have HCC := Lib.hid (And.intro hc1 hc2)
    clear hc1 hc2
    go_wp2
    go_ret
    have hbw : Below w2.heap.size w2 (w2.alloc (.cells #[.slice a x.items.length c] 106)) := (Below.refl _ _).alloc (Nat.le_refl _) _
    have hg := HU2.out.grown.size
    simp only [World.size_alloc] at hg
    refine rres_ok HT2.out ?_ (HR2.out.below hbw) (((Upd.of_below HB.out _).trans HU2.out).trans_below (hbw.mono (by omega)))
    have hp := okn_mono (w0 := w) (ptrsL_keeps a x.items) (below_keeps (ptrsL_keeps a x.items) HP2.out hbw) (by simp only [World.size_alloc]; omega)
    have hx := heap_alloc_new w2 (.cells #[.slice a x.items.length c] 106)
    obtain ⟨k, i, s, ns, is⟩ := x
    rw [RuleAt, if_neg (by decide), if_pos (by decide)]
    exact ⟨_, a, c, rfl, ⟨.inr (by omega), hx⟩, HCC.out.1, HCC.out.2, hp⟩
set_option maxRecDepth 20000 in
set_option maxHeartbeats 4000000 in
theorem makeItems_c (m : Nat) (ih : SchemaSaid m) (d n : Nat) (hd : d ≤ 8) (hn : n ≤ 128) (whole x kn : JV) (hm : x.size ≤ m) (hok : okU x) (hbk : x.bulk ≤ 1099511627776) (ws cs : List Value) (w : World) (ok : Nat → Prop) (R : Nat) (hC : ¬ ok R) (hw : Rep w ok whole ws) (hr : Rep w ok x cs) (hc : RdrAt w R n) :
    Calls Tryz.prog 45 #[.pointer (some ⟨R, 0, none⟩), .agg ws.toArray, .agg cs.toArray, .int .i64 (d : Int)] w (RRes w R ok x ⟨#[105, 116, 101, 109, 115]⟩ kn (readRule x ⟨#[105, 116, 101, 109, 115]⟩ d n)) := by
  have hb0 : ∀ (wn wi an ai : Option Addr) (wc wd cn ci : Nat), Below w.heap.size w ((w.alloc (.cells #[.int .i64 whole.kind, .int .i64 whole.int, .string whole.text, .slice wn whole.names.length wc, .slice wi whole.items.length wd] 25)).alloc (.cells #[.int .i64 x.kind, .int .i64 x.int, .string x.text, .slice an x.names.length cn, .slice ai x.items.length ci] 25)) := fun _ _ _ _ _ _ _ _ => (by repeat (first | with_reducible exact Below.refl _ _ | with_reducible refine below_drewN ?_ _ | with_reducible refine Below.drew ?_ | with_reducible refine below_set5 ?_ (by first | (simp; done) | (simp; omega)) | with_reducible refine Below.alloc ?_ (by first | (simp; done) | (simp; omega)) _ | with_reducible refine Below.setCell ?_ (by first | (simp; done) | (simp; omega)) _))
  obtain ⟨wn, wc, wi, wd, rfl⟩ := hw.form
  have hr2 := hr
  obtain ⟨an, cn, ai, ci, rfl⟩ := hr.form
  have hb := hb0 wn wi an ai wc wd cn ci
  have hCL := ih x hm hok hbk (d + 1) n (by omega) hn _ ((w.alloc (.cells #[.int .i64 whole.kind, .int .i64 whole.int, .string whole.text, .slice wn whole.names.length wc, .slice wi whole.items.length wd] 25)).alloc (.cells #[.int .i64 x.kind, .int .i64 x.int, .string x.text, .slice an x.names.length cn, .slice ai x.items.length ci] 25)) ok R hC (hr2.below hb) (hc.below hb)
  have HB := Lib.hid hb
  clear hb0 hb hw hr hr2 hc hC ih hm hok hbk
  have HT := Lib.hid (show readRule x ⟨#[105, 116, 101, 109, 115]⟩ d n = readS x (d + 1) n by cases x; rw [readRule, if_neg (by decide), if_neg (by decide), if_pos (by decide), readS])
  rw [show ((d + 1 : Nat) : Int) = (d : Int) + 1 by omega] at hCL
  cases hrs : readS x (d + 1) n with
  | bad E =>
    rw [hrs] at hCL
    have HC := Lib.hid hCL
    have HT2 := Lib.hid (HT.out.trans hrs)
    clear hCL hrs
    go_enter Tryz.func45, Tryz.ntmps45
    go_wp2_with fail
    refine HC.out.mono ?_; rintro e w2 ⟨rfl, HU2⟩
    unfold refV
    go_wp2
    exact ⟨rfl, rres_bad HT2.out ((Upd.of_below HB.out _).trans HU2.out)⟩
  | ok m2 =>
    rw [hrs] at hCL
    have HC := Lib.hid hCL
    have HT2 := Lib.hid (HT.out.trans hrs)
    clear hCL hrs
    go_enter Tryz.func45, Tryz.ntmps45
    go_wp2_with fail
    refine HC.out.mono ?_; rintro e w2 ⟨p, rfl, HS2, -, HR2, HU2⟩
    go_wp2
    go_ret
    refine rres_ok HT2.out ?_ HR2.out ((Upd.of_below HB.out _).trans HU2.out)
    have hp := okn_mono (w0 := w) (sch_keeps x (.pointer (some ⟨p, 0, none⟩))) HS2.out (by simp only [World.size_alloc]; omega)
    obtain ⟨k, i, s, ns, is⟩ := x
    rw [SchAt] at hp
    rw [RuleAt, if_neg (by decide), if_neg (by decide), if_pos rfl]
    exact ⟨_, rfl, hp⟩
set_option maxRecDepth 20000 in
set_option maxHeartbeats 4000000 in
theorem makeNot_c (m : Nat) (ih : SchemaSaid m) (d n : Nat) (hd : d ≤ 8) (hn : n ≤ 128) (whole x kn : JV) (hm : x.size ≤ m) (hok : okU x) (hbk : x.bulk ≤ 1099511627776) (ws cs : List Value) (w : World) (ok : Nat → Prop) (R : Nat) (hC : ¬ ok R) (hw : Rep w ok whole ws) (hr : Rep w ok x cs) (hc : RdrAt w R n) :
    Calls Tryz.prog 58 #[.pointer (some ⟨R, 0, none⟩), .agg ws.toArray, .agg cs.toArray, .int .i64 (d : Int)] w (RRes w R ok x ⟨#[110, 111, 116]⟩ kn (readRule x ⟨#[110, 111, 116]⟩ d n)) := by
  have hb0 : ∀ (wn wi an ai : Option Addr) (wc wd cn ci : Nat), Below w.heap.size w ((w.alloc (.cells #[.int .i64 whole.kind, .int .i64 whole.int, .string whole.text, .slice wn whole.names.length wc, .slice wi whole.items.length wd] 25)).alloc (.cells #[.int .i64 x.kind, .int .i64 x.int, .string x.text, .slice an x.names.length cn, .slice ai x.items.length ci] 25)) := fun _ _ _ _ _ _ _ _ => (by repeat (first | with_reducible exact Below.refl _ _ | with_reducible refine below_drewN ?_ _ | with_reducible refine Below.drew ?_ | with_reducible refine below_set5 ?_ (by first | (simp; done) | (simp; omega)) | with_reducible refine Below.alloc ?_ (by first | (simp; done) | (simp; omega)) _ | with_reducible refine Below.setCell ?_ (by first | (simp; done) | (simp; omega)) _))
  obtain ⟨wn, wc, wi, wd, rfl⟩ := hw.form
  have hr2 := hr
  obtain ⟨an, cn, ai, ci, rfl⟩ := hr.form
  have hb := hb0 wn wi an ai wc wd cn ci
  have hCL := ih x hm hok hbk (d + 1) n (by omega) hn _ ((w.alloc (.cells #[.int .i64 whole.kind, .int .i64 whole.int, .string whole.text, .slice wn whole.names.length wc, .slice wi whole.items.length wd] 25)).alloc (.cells #[.int .i64 x.kind, .int .i64 x.int, .string x.text, .slice an x.names.length cn, .slice ai x.items.length ci] 25)) ok R hC (hr2.below hb) (hc.below hb)
  have HB := Lib.hid hb
  clear hb0 hb hw hr hr2 hc hC ih hm hok hbk
  have HT := Lib.hid (show readRule x ⟨#[110, 111, 116]⟩ d n = readS x (d + 1) n by cases x; rw [readRule, if_neg (by decide), if_neg (by decide), if_pos (by decide), readS])
  rw [show ((d + 1 : Nat) : Int) = (d : Int) + 1 by omega] at hCL
  cases hrs : readS x (d + 1) n with
  | bad E =>
    rw [hrs] at hCL
    have HC := Lib.hid hCL
    have HT2 := Lib.hid (HT.out.trans hrs)
    clear hCL hrs
    go_enter Tryz.func58, Tryz.ntmps58
    go_wp2_with fail
    refine HC.out.mono ?_; rintro e w2 ⟨rfl, HU2⟩
    unfold refV
    go_wp2
    exact ⟨rfl, rres_bad HT2.out ((Upd.of_below HB.out _).trans HU2.out)⟩
  | ok m2 =>
    rw [hrs] at hCL
    have HC := Lib.hid hCL
    have HT2 := Lib.hid (HT.out.trans hrs)
    clear hCL hrs
    go_enter Tryz.func58, Tryz.ntmps58
    go_wp2_with fail
    refine HC.out.mono ?_; rintro e w2 ⟨p, rfl, HS2, -, HR2, HU2⟩
    go_wp2
    go_ret
    have hbw : Below w2.heap.size w2 (w2.alloc (.cells #[.pointer (some ⟨p, 0, none⟩)] 39)) := (Below.refl _ _).alloc (Nat.le_refl _) _
    have hg := HU2.out.grown.size
    simp only [World.size_alloc] at hg
    refine rres_ok HT2.out ?_ (HR2.out.below hbw) (((Upd.of_below HB.out _).trans HU2.out).trans_below (hbw.mono (by omega)))
    have hp := okn_mono (w0 := w) (sch_keeps x (.pointer (some ⟨p, 0, none⟩))) (below_keeps (sch_keeps x (.pointer (some ⟨p, 0, none⟩))) HS2.out hbw) (by simp only [World.size_alloc]; omega)
    have hx := heap_alloc_new w2 (.cells #[.pointer (some ⟨p, 0, none⟩)] 39)
    obtain ⟨k, i, s, ns, is⟩ := x
    rw [SchAt] at hp
    rw [RuleAt, if_neg (by decide), if_neg (by decide), if_neg (by decide), if_pos rfl]
    exact ⟨_, _, rfl, ⟨.inr (by omega), hx⟩, hp⟩
end Go.Proofs.YtnmojmmgkipjcaaGreatDoor
namespace Go.Proofs.YtnmojmmgkipjcaaGreatDoor
open Go.RowKit
theorem LstAt.upd {w0 wr w' : World} {ok F F' : Nat → Prop} {is : List JV} {v : Value} {xs : List Value} {r r' : Option Nat} (h : LstAt w0 ok F is v xs wr) (hu : Upd wr w' r r') (hr : ∀ g, r = some g → F g ∧ w0.heap.size ≤ g) (hv : ∀ g, r = some g → v.ownBlock ≠ some g)
    (hF : ∀ b, b < wr.heap.size → F' b → v.ownBlock = some b ∨ F b) : LstAt w0 ok F' is v xs w' :=
  ⟨h.row.kept hu (by cases e : v.ownBlock with | none => exact .inl rfl | some g => exact .inr (fun e2 => hv g e2.symm e)), h.own, keepE (ptrs_keeps is xs) h.ptrs hu (fun g e => .inl ⟨.inr (hr g e).1, (hr g e).2⟩) (fun b hb hf => by
    rcases hf with hf | hf
    · exact .inl hf
    · exact hF b hb hf)⟩
/-- a step of a region that gives up leaves nothing of the region to do -/
theorem wpAny_out {P : Program} {G : Prop} (a : Act) (w : World) (h : wpAny P .any #[] (fun _ _ _ => G) 0 #[] a w) : G := h.2
/-- the struct of properties, under way -/
structure PrAt (w0 : World) (ok : Nat → Prop) (Pb : Nat) (ns : List ByteArray) (nv : Value) (is : List JV) (ov : Value) (xs : List Value) (wr : World) : Prop where
  blk : wr.heap[Pb]? = some (.cells #[nv, ov] 108 (0, 0))
  ge : w0.heap.size ≤ Pb
  nrow : Row wr 9 1 nv ns.length (ns.map Value.string)
  nown : ∀ g, nv.ownBlock = some g → w0.heap.size ≤ g ∧ g ≠ Pb ∧ ov.ownBlock ≠ some g
  lst : LstAt w0 ok (fun b => nv.ownBlock = some b ∨ b = Pb) is ov xs wr
  one : ov.ownBlock ≠ some Pb
theorem PrAt.cells {w0 wr : World} {ok : Nat → Prop} {Pb : Nat} {ns : List ByteArray} {nv ov : Value} {is : List JV} {xs : List Value} (h : PrAt w0 ok Pb ns nv is ov xs wr) :
    (wr.cell? ⟨Pb, 0, none⟩ = some nv ∧ wr.cell? ⟨Pb, 1, none⟩ = some ov) ∧ (wr.frozen? ⟨Pb, 0, none⟩ = false ∧ wr.frozen? ⟨Pb, 1, none⟩ = false) ∧ Pb < wr.heap.size :=
  ⟨⟨cell_of_row _ _ _ _ _ _ h.blk, cell_of_row _ _ _ _ _ _ h.blk⟩, ⟨frozen_of_row _ _ _ _ _ h.blk, frozen_of_row _ _ _ _ _ h.blk⟩, (Array.getElem?_eq_some_iff.1 h.blk).1⟩
theorem PrAt.start (w0 : World) (ok : Nat → Prop) : PrAt w0 ok w0.heap.size [] (.slice none 0 0) [] (.slice none 0 0) [] (w0.alloc (.cells #[.slice none 0 0, .slice none 0 0] 108)) :=
  ⟨heap_alloc_new w0 _, Nat.le_refl _, row_nil _ _ _, fun g h => (by cases h), LstAt.start _ _ _ _, fun h => (by cases h)⟩
theorem PrAt.move {w0 wr w' : World} {ok : Nat → Prop} {Pb : Nat} {ns : List ByteArray} {nv ov : Value} {is : List JV} {xs : List Value} {R : Nat} (h : PrAt w0 ok Pb ns nv is ov xs wr) (hu : Upd wr w' (some R) (some R)) (hR : R < w0.heap.size) (hok : ¬ ok R) : PrAt w0 ok Pb ns nv is ov xs w' :=
  ⟨(hu.block h.cells.2.2 (fun e => by injection e with e; have := h.ge; omega)).trans h.blk, h.ge, h.nrow.kept hu (.inr (fun e => by have := (h.nown R e).1; omega)), h.nown,
    h.lst.move hu (.inr ⟨hR, hok⟩) (fun e => by have := h.lst.own R e; omega), h.one⟩
theorem PrAt.below {w0 wr w' : World} {ok : Nat → Prop} {Pb : Nat} {ns : List ByteArray} {nv ov : Value} {is : List JV} {xs : List Value} (h : PrAt w0 ok Pb ns nv is ov xs wr) (hb : Below wr.heap.size wr w') : PrAt w0 ok Pb ns nv is ov xs w' :=
  ⟨(hb.block Pb h.cells.2.2).trans h.blk, h.ge, h.nrow.below hb, h.nown, h.lst.below hb, h.one⟩
theorem own_or {w w' : World} {r r' : Option Nat} (hu : Upd w w' r r') (g : Nat) (hg : r' = some g) : r = some g ∨ w.heap.size ≤ g := by
  rcases hu.own with e | ⟨g', e, hg'⟩
  · exact .inl (e ▸ hg)
  · rw [e] at hg; injection hg with hg; subst hg; exact .inr hg'
/-- one name more -/
theorem PrAt.name {w0 wr w' : World} {ok : Nat → Prop} {Pb : Nat} {ns : List ByteArray} {nv nv' ov : Value} {is : List JV} {xs : List Value} {s : ByteArray} (h : PrAt w0 ok Pb ns nv is ov xs wr) (h0 : w0.heap.size ≤ wr.heap.size) (hr : Row w' 9 1 nv' (ns.length + 1) (ns.map Value.string ++ [.string s])) (hu : Upd wr w' nv.ownBlock nv'.ownBlock) :
    PrAt w0 ok Pb (ns ++ [s]) nv' is ov xs (w'.setCell ⟨Pb, 0, none⟩ nv') ∧ Below w0.heap.size wr (w'.setCell ⟨Pb, 0, none⟩ nv') := by
  have hPl := h.cells.2.2
  have hb' : w'.heap[Pb]? = some (.cells #[nv, ov] 108 (0, 0)) := (hu.block hPl (fun e => (h.nown Pb e).2.1 rfl)).trans h.blk
  have hs : Upd w' (w'.setCell ⟨Pb, 0, none⟩ nv') (some Pb) (some Pb) := Upd.of_setCell _ _ _
  have hn' : ∀ g, nv'.ownBlock = some g → w0.heap.size ≤ g ∧ g ≠ Pb ∧ ov.ownBlock ≠ some g := fun g hg => by
    rcases own_or hu g hg with h1 | h1
    · exact h.nown g h1
    · exact ⟨by omega, by omega, fun e => by have := h.lst.row.lt e; omega⟩
  refine ⟨⟨heap_setCell_same w' Pb 0 _ _ _ hb', h.ge, ?_, hn', ?_, h.one⟩, (hu.below h0 (fun g e => (h.nown g e).1)).trans (hs.below (Nat.le_trans h0 hu.grown.size) (fun g e => by injection e with e; have := h.ge; omega))⟩
  · rw [List.length_append, List.map_append]
    exact hr.kept hs (.inr (fun e => (hn' Pb e).2.1 rfl))
  · refine LstAt.upd (F := fun b => nv'.ownBlock = some b ∨ b = Pb) (LstAt.upd h.lst hu (fun g e => ⟨.inl e, (h.nown g e).1⟩) (fun g e => (h.nown g e).2.2) (fun b hb hf => ?_)) hs (fun g e => by injection e with e; subst e; exact ⟨.inr rfl, h.ge⟩) (fun g e => by injection e with e; subst e; exact h.one) (fun _ _ hf => .inr hf)
    rcases hf with hf | hf
    · rcases own_or hu b hf with h1 | h1
      · exact .inr (.inl h1)
      · omega
    · exact .inr (.inr hf)
/-- one schema more -/
theorem PrAt.item {w0 wp wv wa w' : World} {ok : Nat → Prop} {Pb : Nat} {ns : List ByteArray} {nv ov ov' : Value} {is : List JV} {xs : List Value} {t : JV} {q : Value} (h : PrAt w0 ok Pb ns nv is ov xs wv) (h0 : w0.heap.size ≤ wp.heap.size) (hp : ∀ b, (ov.ownBlock = some b ∨ nv.ownBlock = some b ∨ b = Pb) → b < wp.heap.size) (hpv : wp.heap.size ≤ wv.heap.size)
    (hq : SchAt wv (OkN (fun b => ok b ∧ b < w0.heap.size) wp) t q) (ha : Below wv.heap.size wv wa) (hr : Row w' 39 1 ov' (is.length + 1) (xs ++ [q])) (hu : Upd wa w' ov.ownBlock ov'.ownBlock) :
    PrAt w0 ok Pb ns nv (is ++ [t]) ov' (xs ++ [q]) (w'.setCell ⟨Pb, 1, none⟩ ov') ∧ Below w0.heap.size wv (w'.setCell ⟨Pb, 1, none⟩ ov') := by
  have hA := h.below ha
  have hPl := hA.cells.2.2
  have hs0 := ha.size
  have hb' : w'.heap[Pb]? = some (.cells #[nv, ov] 108 (0, 0)) := (hu.block hPl h.one).trans hA.blk
  have hs : Upd w' (w'.setCell ⟨Pb, 1, none⟩ ov') (some Pb) (some Pb) := Upd.of_setCell _ _ _
  have ho' : ov'.ownBlock ≠ some Pb := fun e => by
    rcases own_or hu Pb e with h1 | h1
    · exact h.one h1
    · omega
  refine ⟨⟨heap_setCell_same w' Pb 1 _ _ _ hb', h.ge, ?_, fun g hg => ⟨(h.nown g hg).1, (h.nown g hg).2.1, fun e => ?_⟩, ?_, ho'⟩, ((ha.mono (by omega)).trans (hu.below (by omega) h.lst.own)).trans (hs.below (by have := hu.grown.size; omega) (fun g e => by injection e with e; have := h.ge; omega))⟩
  · exact (hA.nrow.kept hu (by cases e : nv.ownBlock with | none => exact .inl rfl | some g => exact .inr (fun e2 => (h.nown g e).2.2 e2.symm))).kept hs (.inr (fun e => (h.nown Pb e).2.1 rfl))
  · rcases own_or hu g e with h1 | h1
    · exact (h.nown g hg).2.2 h1
    · have := hA.nrow.lt hg; omega
  · have hl := LstAt.push hA.lst h0 (fun g hg => hp g (.inl hg)) (fun b hb => hp b (.inr hb)) (by omega) (below_keeps (sch_keeps t q) hq ha) hr hu
    exact hl.move hs (.inl ⟨.inr rfl, h.ge⟩) ho'
set_option maxRecDepth 20000 in
set_option maxHeartbeats 8000000 in
theorem makeProperties_c (m : Nat) (ih : SchemaSaid m) (d n : Nat) (hd : d ≤ 8) (hn : n ≤ 128) (whole x kn : JV) (hm : x.size ≤ m + 1) (hok : okU x) (hbk : x.bulk ≤ 1099511627776) (ws cs : List Value) (w : World) (ok : Nat → Prop) (R : Nat) (hC : ¬ ok R) (hw : Rep w ok whole ws) (hr : Rep w ok x cs) (hc : RdrAt w R n) :
    Calls Tryz.prog 43 #[.pointer (some ⟨R, 0, none⟩), .agg ws.toArray, .agg cs.toArray, .int .i64 (d : Int)] w (RRes w R ok x ⟨#[112, 114, 111, 112, 101, 114, 116, 105, 101, 115]⟩ kn (readRule x ⟨#[112, 114, 111, 112, 101, 114, 116, 105, 101, 115]⟩ d n)) := by
  obtain ⟨wn, wc, wi, wd, rfl⟩ := hw.form
  obtain ⟨k, i, s, ns, is⟩ := x
  rw [rep_mk] at hr
  obtain ⟨_, _, _, an, cn, ai, ci, rfl, hcn, hci, hst, hit⟩ := hr
  rw [okU] at hok
  have hlen := len_bulk hbk
  have hbb : ∀ x ∈ is, x.bulk ≤ 1099511627776 := fun x hx => by rw [JV.bulk] at hbk; have := JV.bulk_le hx; omega
  have hsz : ∀ x ∈ is, x.size ≤ m := fun x hx => by have h1 := JV.size_le hx; rw [JV.size] at hm; omega
  have hb : Below w.heap.size w ((w.alloc (.cells #[.int .i64 whole.kind, .int .i64 whole.int, .string whole.text, .slice wn whole.names.length wc, .slice wi whole.items.length wd] 25)).alloc (.cells #[.int .i64 k, .int .i64 i, .string s, .slice an ns.length cn, .slice ai is.length ci] 25)) := (by repeat (first | with_reducible exact Below.refl _ _ | with_reducible refine below_drewN ?_ _ | with_reducible refine Below.drew ?_ | with_reducible refine below_set5 ?_ (by first | (simp; done) | (simp; omega)) | with_reducible refine Below.alloc ?_ (by first | (simp; done) | (simp; omega)) _ | with_reducible refine Below.setCell ?_ (by first | (simp; done) | (simp; omega)) _))
  have HB := Lib.hid hb
  have HRD := Lib.hid (hc.below hb)
  have hRl := hc.cells.2.2
  have HX := Lib.hid (heap_alloc_new (w.alloc (.cells #[.int .i64 whole.kind, .int .i64 whole.int, .string whole.text, .slice wn whole.names.length wc, .slice wi whole.items.length wd] 25)) (.cells #[.int .i64 k, .int .i64 i, .string s, .slice an ns.length cn, .slice ai is.length ci] 25))
  have HIT := Lib.hid ((hit.kept (ok' := fun b => ok b ∧ b < w.heap.size) (fun b hlt ho => ⟨⟨ho, hlt⟩, rfl⟩)).below hb)
  have HST := Lib.hid ((hst.kept (ok' := fun b => ok b ∧ b < w.heap.size) (fun b hlt ho => ⟨⟨ho, hlt⟩, rfl⟩)).below hb)
  have HIH := Lib.hid ih
  have HOK := Lib.hid hok
  have HBB := Lib.hid hbb
  have HSZ := Lib.hid hsz
  have HNC := Lib.hid hC
  have HCB := Lib.hid (And.intro hcn hci)
  clear hw hst hit hb hc ih hok hbb hsz hC hm hbk hcn hci
  by_cases h6 : k = 6
  case neg =>
    have HT := Lib.hid (show readRule (.mk k i s ns is) ⟨#[112, 114, 111, 112, 101, 114, 116, 105, 101, 115]⟩ d n = .bad 210 by rw [readRule, if_pos rfl, if_neg h6])
    have e6 : (k == 6) = false := by simp [h6]
    clear h6
    go_enter Tryz.func43, Tryz.ntmps43
    go_wp2_with fail
    refine (need_f _).mono ?_; rintro e w' ⟨rfl, rfl⟩
    unfold refV
    go_wp2
    exact ⟨rfl, rres_bad HT.out (Upd.of_below HB.out _)⟩
  subst h6
  have HT := Lib.hid (show readRule (.mk 6 i s ns is) ⟨#[112, 114, 111, 112, 101, 114, 116, 105, 101, 115]⟩ d n = readList is (d + 1) n by rw [readRule, if_pos rfl, if_pos rfl])
  have HLN := Lib.hid (HOK.out.1 rfl)
  go_enter Tryz.func43, Tryz.ntmps43
  go_wp2_with (go_at_call 30; refine (need_t _).mono ?_; rintro e w' ⟨rfl, rfl⟩)
  have hX := HX.out
  have hS := PrAt.start ((w.alloc (.cells #[.int .i64 whole.kind, .int .i64 whole.int, .string whole.text, .slice wn whole.names.length wc, .slice wi whole.items.length wd] 25)).alloc (.cells #[.int .i64 6, .int .i64 i, .string s, .slice an ns.length cn, .slice ai is.length ci] 25)) ok
  have hW1s : ((w.alloc (.cells #[.int .i64 whole.kind, .int .i64 whole.int, .string whole.text, .slice wn whole.names.length wc, .slice wi whole.items.length wd] 25)).alloc (.cells #[.int .i64 6, .int .i64 i, .string s, .slice an ns.length cn, .slice ai is.length ci] 25)).heap.size = w.heap.size + 1 + 1 := by simp
  rw [hW1s] at hS
  rw [World.size_alloc] at hX
  clear HX
  have HX := Lib.hid hX
  have HS := Lib.hid hS
  clear hX hS
  generalize hW1 : ((w.alloc (.cells #[.int .i64 whole.kind, .int .i64 whole.int, .string whole.text, .slice wn whole.names.length wc, .slice wi whole.items.length wd] 25)).alloc (.cells #[.int .i64 6, .int .i64 i, .string s, .slice an ns.length cn, .slice ai is.length ci] 25)) = W1 at *
  clear hW1
  have HW1S := Lib.hid hW1s
  have hRW : R < W1.heap.size := by omega
  have hXW : w.heap.size + 1 < W1.heap.size := by omega
  clear hW1s
  go_loopw [19] (fun q wr => ∃ (j p : Nat) (nv ov : Value) (xs : List Value), j ≤ ns.length ∧ q = .int .i64 j ∧ p ≤ 128 ∧ Hid (RdrAt wr R p) ∧ Hid (PrAt W1 ok (w.heap.size + 1 + 1) (ns.take j) nv (is.take j) ov xs wr) ∧ Hid (Upd W1 wr (some R) (some R)) ∧ Hid (readList is (d + 1) n = readList (is.drop j) (d + 1) p)) (fun q _ => ns.length - (intOf q).toNat)
  case atStart => exact ⟨0, n, _, _, _, Nat.zero_le _, rfl, hn, Lib.hid (HRD.out.below ((Below.refl _ _).alloc (Nat.le_refl _) _)), HS, Lib.hid (Upd.of_below ((Below.refl _ _).alloc (Nat.le_refl _) _) _), Lib.hid rfl⟩
  case round =>
    clear HS HRD
    obtain ⟨j, p, nv, ov, xs, hj, rfl, hp, HR, HP, HU, HQ⟩ := hrel
    have HNC1 := Lib.hid (show ¬ (ok R ∧ R < w.heap.size) from fun h => HNC.out h.1)
    have hxr := (HU.out.block hXW (by intro e; injection e with e; omega)).trans HX.out
    obtain ⟨⟨z0, z1, z2, z3, z4⟩, _⟩ := cellsOf5 hxr
    have hsz := HU.out.grown.size
    obtain ⟨⟨p0, p1⟩, ⟨f0, f1⟩, hpl⟩ := HP.out.cells
    by_cases hlt : j < ns.length
    · have hlti : j < is.length := by have := HLN.out; omega
      obtain ⟨b, off, rfl, hnc⟩ := (HST.out.upd HNC1.out HU.out).at j hlt
      have hncl := cell_lt hnc
      simp only at hncl
      obtain ⟨na, nc, rfl, _⟩ := HP.out.nrow.form
      have HTN := Lib.hid (show ns.take (j + 1) = ns.take j ++ [ns[j]] from List.take_succ_eq_append_getElem hlt)
      have HTL := Lib.hid (show (ns.take j).length = j from List.length_take_of_le hj)
      have HTI := Lib.hid (show (is.take j).length = j from List.length_take_of_le (Nat.le_of_lt hlti))
      have HNB := Lib.hid (show ns.length ≤ 1099511627776 by have := HLN.out; omega)
      have HP1 := Lib.hid (HP.out.below ((Below.refl wr.heap.size wr).alloc (Nat.le_refl _) (.cells #[.string ns[j]] 9)))
      have HPN := Lib.hid (World.news_of_block (heap_alloc_new wr (.cells #[.string ns[j]] 9)))
      have HBA := Lib.hid ((Below.refl wr.heap.size wr).alloc (Nat.le_refl _) (.cells #[.string ns[j]] 9))
      clear hxr
      generalize ns[j] = nm at *
      generalize ns.take j = LN at *
      go_wp2_with (at_builtin; refine wpList_app strTy rfl _ _ rfl (.slice na LN.length nc) LN.length (LN.map Value.string) rfl HP1.out.nrow ⟨wr.heap.size, 0, none⟩ 1 1 [.string nm] rfl rfl HPN.out (by simp [Value.oneCell']) (by have := HNB.out; have := HTL.out; unfold maxLen; omega) (by have := HNB.out; have := HTL.out; omega) ?_; intro nv' w3 hrow hu; obtain ⟨na2, nc2, rfl, -⟩ := hrow.form; have HN3 := Lib.hid (HP1.out.name (by simp only [World.size_alloc]; omega) hrow hu); have p03 := hu.cell (HP1.out.cells).1.1 (fun e => (HP1.out.nown _ e).2.1 rfl); obtain ⟨f03⟩ : w3.frozen? ⟨w.heap.size + 1 + 1, 0, none⟩ = false ∧ True := ⟨by rw [hu.frozen (by simp only [World.size_alloc]; omega) (fun e => (HP1.out.nown _ e).2.1 rfl)]; exact (HP1.out.cells).2.1.1, trivial⟩; clear hrow hu)
      have HPa := Lib.hid HN3.out.1
      have HUa := Lib.hid (HU.out.trans_below ((HBA.out.mono (by omega)).trans HN3.out.2))
      have HRa := Lib.hid (show RdrAt _ R p from (((HBA.out.mono (by omega)).trans HN3.out.2).block R hRW).trans HR.out)
      have HSa := Lib.hid (Nat.le_trans (show W1.heap.size ≤ (wr.alloc (.cells #[.string nm] 9)).heap.size by simp only [World.size_alloc]; omega) HN3.out.2.size)
      clear HN3 p03 f03 z0 z1 z2 z3 z4 p0 p1 f0 f1 hpl HP HP1 HR HU HPN HBA hnc hncl hsz
      generalize w3.setCell ⟨w.heap.size + 1 + 1, 0, none⟩ (.slice na2 (LN.length + 1) nc2) = W2 at *
      have hW2 := HSa.out
      clear HSa
      have hxa := (HUa.out.block hXW (by intro e; injection e with e; omega)).trans HX.out
      obtain ⟨⟨z0, z1, z2, z3, z4⟩, _⟩ := cellsOf5 hxa
      obtain ⟨⟨p0, p1⟩, ⟨f0, f1⟩, hpl⟩ := HPa.out.cells
      have HNC2 := Lib.hid (show ¬ (ok R ∧ R < W1.heap.size) from fun h => HNC.out h.1)
      have HTK := Lib.hid (show is.take (j + 1) = is.take j ++ [is[j]] from List.take_succ_eq_append_getElem hlti)
      have HQ2 := Lib.hid (show readList is (d + 1) n = match readS is[j] (d + 1) p with | .bad e => .bad e | .ok m => readList (is.drop (j + 1)) (d + 1) m by rw [HQ.out, List.drop_eq_getElem_cons hlti, readList]; rfl)
      have HSL := Lib.hid (readS_le is[j] (d + 1) p)
      obtain ⟨b2, off2, an2, cn2, ai2, ci2, rfl, hrj, hlj⟩ := (((HIT.out.kept (ok' := fun b => ok b ∧ b < W1.heap.size) (fun b hlt ho => ⟨⟨ho.1, by omega⟩, rfl⟩))).upd HNC2.out HUa.out).at j hlti
      obtain ⟨l0, l1, l2, l3, l4⟩ := lie5 hlj
      have hb2l := cell_lt l0
      simp only at hb2l
      obtain ⟨oa, oc, rfl, _⟩ := HPa.out.lst.row.form
      have hdr := Lib.hid (Below.drew (Below.refl W2.heap.size W2))
      have HPd := Lib.hid (HPa.out.below hdr.out)
      have hcall := HIH.out is[j] (HSZ.out _ (List.getElem_mem hlti)) (okUs_at HOK.out.2 j hlti) (HBB.out _ (List.getElem_mem hlti)) (d + 1) p (by omega) hp _ W2.drew _ R HNC2.out (hrj.below hdr.out) (HRa.out.below hdr.out)
      rw [show ((d + 1 : Nat) : Int) = IntKind.i64.wrap ((d : Int) + 1) from by simp [IntKind.wrap, IntKind.signed, IntKind.bits]; omega] at hcall
      have HOO := Lib.hid (show ∀ b, ((Value.slice oa (is.take j).length oc).ownBlock = some b ∨ (Value.slice na2 (LN.length + 1) nc2).ownBlock = some b ∨ b = w.heap.size + 1 + 1) → b < W2.drew.heap.size from fun b hb => by
        rcases hb with hb | hb | hb
        · exact HPd.out.lst.row.lt hb
        · exact HPd.out.nrow.lt hb
        · rw [hb]; exact HPd.out.cells.2.2)
      clear hxa HQ hrj hlj
      generalize is.take j = LI at *
      cases hrs : readS is[j] (d + 1) p with
      | bad E =>
        rw [hrs] at hcall HQ2
        have HT2 := Lib.hid (HT.out.trans HQ2.out)
        clear hrs HSL HTK HQ2
        generalize is[j] = y at *
        go_region_law (first
          | (go_simp; go_at_call 25; refine hcall.mono ?_; rintro e wv ⟨rfl, HU4⟩; unfold refV; refine wpAny_out (P := Tryz.prog) ⟨#[], []⟩ wv ?_))
        all_goals exact ⟨rfl, rres_bad HT2.out (((Upd.of_below HB.out _).trans HUa.out).trans ((Upd.of_below hdr.out _).trans HU4.out))⟩
      | ok m2 =>
        rw [hrs] at hcall HQ2
        have hm2 := (HSL.out m2 hp hrs).2
        clear hrs HSL
        generalize is[j] = y at *
        have HLL := Lib.hid (show LI.length + 1 ≤ 1099511627776 by have := HNB.out; have := HTI.out; omega)
        go_region_law (first
          | (refine step_app ptrTy (by rfl) _ _ (by rfl) (.slice oa LI.length oc) LI.length xs (by rfl) (HPv.out.lst.row.below ((Below.refl _ _).alloc (Nat.le_refl _) _)) (some ⟨wv.heap.size, 0, none⟩) 1 1 [.pointer (some ⟨pp, 0, none⟩)] (by rfl) (by rfl) (by simp) (fun a ha => by cases ha; exact World.news_of_block (heap_alloc_new wv _)) (by simp [Value.oneCell']) (by have := HLL.out; unfold maxLen; omega) (by have := HLL.out; omega) ?_;
             intro ov' w4 hrow hu3; have e43 := hu3.cell e42 HPv.out.one; obtain ⟨f43⟩ : w4.frozen? ⟨w.heap.size + 1 + 1, 1, none⟩ = false ∧ True := ⟨by rw [hu3.frozen (cell_lt e42) HPv.out.one]; exact f42, trivial⟩;
             have HI3 := Lib.hid (HPv.out.item hW2d.out HOO.out hW2v.out HSv.out ((Below.refl _ _).alloc (Nat.le_refl _) _) hrow hu3); obtain ⟨g9, c9, hv9, _⟩ := hrow.form; subst hv9; clear hrow hu3)
          | (go_simp; go_at_call 25; refine hcall.mono ?_; rintro e wv ⟨pp, rfl, HSv, -, HR4, HU4⟩; have HPv := Lib.hid (HPd.out.move HU4.out hRW HNC.out); have hW2d := Lib.hid (show W1.heap.size ≤ W2.drew.heap.size from Nat.le_trans hW2 hdr.out.size); have hW2v := Lib.hid HU4.out.grown.size; have e41 := HPv.out.cells.1.2; have e42 := cell_below ((Below.refl wv.heap.size wv).alloc (Nat.le_refl _) (.cells #[.pointer (some ⟨pp, 0, none⟩)] 39)) e41; have f42 := (HPv.out.below ((Below.refl wv.heap.size wv).alloc (Nat.le_refl _) (.cells #[.pointer (some ⟨pp, 0, none⟩)] 39))).cells.2.1.2))
        all_goals clear e41 e42 e43 f43 f42 z0 z1 z2 z3 z4 p0 p1 f0 f1 l0 l1 l2 l3 l4 hcall
        all_goals go_wp2
        all_goals go_roundw
        all_goals first | exact ⟨j + 1, m2, _, _, _, by omega, by go_num, hm2, Lib.hid ((HI3.out.2.block R hRW).trans HR4.out), Lib.hid (by rw [HTN.out, HTK.out]; exact HI3.out.1), Lib.hid ((HUa.out.trans ((Upd.of_below hdr.out _).trans HU4.out)).trans_below HI3.out.2), HQ2⟩ | (simp [intOf]; omega)
    · obtain rfl : j = ns.length := by omega
      have HT2 := Lib.hid (show readRule (.mk 6 i s ns is) ⟨#[112, 114, 111, 112, 101, 114, 116, 105, 101, 115]⟩ d n = .ok p by rw [HT.out, HQ.out, show ns.length = is.length from HLN.out, List.drop_length, readList])
      have hPr := HP.out
      rw [List.take_length, show ns.length = is.length from HLN.out, List.take_length] at hPr
      have HPr := Lib.hid hPr
      obtain ⟨na, nc, rfl, _⟩ := hPr.nrow.form
      obtain ⟨oa, oc, rfl, _⟩ := hPr.lst.row.form
      clear hPr hxr
      go_wp2
      go_ret
      refine rres_ok HT2.out ?_ HR.out ((Upd.of_below HB.out _).trans HU.out)
      have hp2 := okn_mono (w0 := w) (ptrs_keeps is xs) (ofE (w0 := W1) (ptrs_keeps is xs) HPr.out.lst.ptrs) (by omega)
      obtain ⟨a1, c1, e1, h1, h2, h3⟩ := row_ptrs HPr.out.lst.row hp2 (fun g hg => .inr (by have := HPr.out.lst.own g hg; omega))
      obtain ⟨a3, c3, e3, h4, h5⟩ := Row.strs (ok := OkN ok w) HPr.out.nrow (fun g hg => .inr (by have := (HPr.out.nown g hg).1; omega))
      injection e1 with q1 _ q2
      injection e3 with q3 _ q4
      subst q1; subst q2; subst q3; subst q4
      rw [RuleAt, if_pos rfl]
      exact ⟨_, _, _, _, rfl, h4.1, h4.2, h1, h2, h5, h3⟩
end Go.Proofs.YtnmojmmgkipjcaaGreatDoor
namespace Go.Proofs.YtnmojmmgkipjcaaGreatDoor
open Go.RowKit
/-- a word whose rule leads to schemas -/
def subW (n : ByteArray) : Prop := n = ⟨#[112, 114, 111, 112, 101, 114, 116, 105, 101, 115]⟩ ∨ (n = ⟨#[97, 110, 121, 79, 102]⟩ ∨ n = ⟨#[97, 108, 108, 79, 102]⟩) ∨ (n = ⟨#[105, 116, 101, 109, 115]⟩ ∨ n = ⟨#[110, 111, 116]⟩)
theorem rule_leaf (x : JV) (nm : ByteArray) (d n : Nat) (h : ¬ subW nm) : readRule x nm d n = given (leafOk nm x) n := by
  simp only [subW, not_or] at h
  obtain ⟨k, i, s, ns, is⟩ := x
  rw [readRule, if_neg h.1, if_neg (not_or.2 h.2.1), if_neg (not_or.2 h.2.2)]
theorem ruleAt_leaf {w : World} {ok : Nat → Prop} {x kn : JV} {nm : ByteArray} {rv : Value} (hn : ¬ subW nm) (h : LeafAt w ok nm x kn rv) : RuleAt w ok x nm kn rv := by
  simp only [subW, not_or] at hn
  obtain ⟨k, i, s, ns, is⟩ := x
  rw [RuleAt, if_neg hn.1, if_neg (not_or.2 hn.2.1), if_neg hn.2.2.1, if_neg hn.2.2.2]
  exact h
theorem rres_leaf {w w' : World} {R n d : Nat} {ok : Nat → Prop} {x kn : JV} {nm : ByteArray} {e : Ending} (hn : ¬ subW nm) (h : LeafPost x nm kn w ok e w') (hr : RdrAt w R n) : RRes w R ok x nm kn (readRule x nm d n) e w' := by
  obtain ⟨hb, ⟨h1, rv, rfl, h2⟩ | ⟨h1, rfl⟩⟩ := h
  · exact rres_ok (m := n) (by rw [rule_leaf x nm d n hn, h1]; rfl) (ruleAt_leaf hn h2) (hr.below hb) (Upd.of_below hb _)
  · exact rres_bad (by rw [rule_leaf x nm d n hn, h1]; rfl) (Upd.of_below hb _)
theorem rule_unknown (x : JV) (nm : ByteArray) (d n : Nat) (h : nm ∉ makerWords) : readRule x nm d n = .bad 210 := by
  unfold makerWords at h
  simp only [List.mem_cons, List.not_mem_nil, or_false, not_or] at h
  obtain ⟨h1, h2, h3, h4, h5, h6, h7, h8, h9, h10, h11, h12, h13, h14, h15, h16⟩ := h
  rw [rule_leaf x nm d n (by simp only [subW, not_or]; exact ⟨h4, ⟨h14, h15⟩, h6, h16⟩)]
  unfold leafOk
  rw [if_neg h1, if_neg h2, if_neg h3, if_neg h5, if_neg (by simp only [not_or]; exact ⟨h7, h8, h9, h10⟩), if_neg (by simp only [not_or]; exact ⟨h11, h12⟩), if_neg h13]
  rfl
theorem lookE_mem (E : List (ByteArray × Value)) (s : ByteArray) : (lookE E s).isSome = true ↔ s ∈ E.map Prod.fst := by
  induction E with
  | nil => simp [lookE]
  | cons p r ih =>
    obtain ⟨a, v⟩ := p
    rw [lookE, List.map_cons, List.mem_cons]
    by_cases h : s = a
    · rw [if_pos h]; simp [h]
    · rw [if_neg h, ih]; simp [h]
theorem leafAt_iface {w : World} {ok : Nat → Prop} {n : ByteArray} {x kn : JV} {rv : Value} (h : LeafAt w ok n x kn rv) : ∃ T u, rv = .iface T u := by
  unfold LeafAt at h
  split at h
  · obtain ⟨_, _, _, rfl, _⟩ := h; exact ⟨_, _, rfl⟩
  · split at h
    · obtain ⟨_, rfl, _⟩ := h; exact ⟨_, _, rfl⟩
    · split at h
      · obtain ⟨_, rfl, _⟩ := h; exact ⟨_, _, rfl⟩
      · split at h
        · obtain ⟨_, _, rfl, _⟩ := h; exact ⟨_, _, rfl⟩
        · split at h
          · obtain ⟨_, _, rfl, _⟩ := h; exact ⟨_, _, rfl⟩
          · obtain ⟨_, _, rfl, _⟩ := h; exact ⟨_, _, rfl⟩
theorem rule_iface {w : World} {ok : Nat → Prop} {x kn : JV} {n : ByteArray} {rv : Value} (h : RuleAt w ok x n kn rv) : ∃ T u, rv = .iface T u := by
  obtain ⟨k, i, s, ns, is⟩ := x
  rw [RuleAt] at h
  split at h
  · obtain ⟨_, _, _, _, rfl, _⟩ := h; exact ⟨_, _, rfl⟩
  · split at h
    · obtain ⟨_, _, _, rfl, _⟩ := h; exact ⟨_, _, rfl⟩
    · split at h
      · obtain ⟨_, rfl, _⟩ := h; exact ⟨_, _, rfl⟩
      · split at h
        · obtain ⟨_, _, rfl, _⟩ := h; exact ⟨_, _, rfl⟩
        · exact leafAt_iface h
theorem MakerV.same {w w' : World} {base : Nat} {s : ByteArray} {v : Value} (h : MakerV w base s v) (hs : ∀ b, base ≤ b → b < w.heap.size → w'.heap[b]? = w.heap[b]?) : MakerV w' base s v := by
  have hz : ∀ {f : Nat} {m : Bool} {v : Value}, SizedV w base f m v → SizedV w' base f m v := fun ⟨b, c, e, h1, h2, h3, h4⟩ =>
    ⟨b, c, e, h1, h2, (hs b h1 (Array.getElem?_eq_some_iff.1 h3).1).trans h3, (hs c h2 (Array.getElem?_eq_some_iff.1 h4).1).trans h4⟩
  have hg : ∀ {f : Nat} {m : Int} {v : Value}, RangedV w base f m v → RangedV w' base f m v := fun ⟨b, c, e, h1, h2, h3, h4⟩ =>
    ⟨b, c, e, h1, h2, (hs b h1 (Array.getElem?_eq_some_iff.1 h3).1).trans h3, (hs c h2 (Array.getElem?_eq_some_iff.1 h4).1).trans h4⟩
  cases h with
  | w_type => exact .w_type
  | w_enum => exact .w_enum
  | w_required => exact .w_required
  | w_properties => exact .w_properties
  | w_additional => exact .w_additional
  | w_items => exact .w_items
  | w_anyOf => exact .w_anyOf
  | w_allOf => exact .w_allOf
  | w_not => exact .w_not
  | w_minItems _ h => exact .w_minItems _ (hz h)
  | w_maxItems _ h => exact .w_maxItems _ (hz h)
  | w_minLength _ h => exact .w_minLength _ (hz h)
  | w_maxLength _ h => exact .w_maxLength _ (hz h)
  | w_minimum _ h => exact .w_minimum _ (hg h)
  | w_maximum _ h => exact .w_maximum _ (hg h)
  | w_divisible _ h => exact .w_divisible _ (hg h)
/-- the maker of a word is a function, with what it captured: its contract -/
theorem maker_c (m : Nat) (ih : SchemaSaid m) (d n : Nat) (hd : d ≤ 8) (hn : n ≤ 128) (whole x : JV) (hm : x.size ≤ m) (hok : okU x) (hbk : x.bulk ≤ 1099511627776) (hwb : whole.bulk ≤ 1099511627776) (ws cs : List Value) (Wm w : World) (ok : Nat → Prop) (R base : Nat) (nm : ByteArray) (mv : Value) (hv : MakerV Wm base nm mv)
    (hS : ∀ b, base ≤ b → b < Wm.heap.size → w.heap[b]? = Wm.heap[b]?) (hokm : ∀ b, base ≤ b → b < Wm.heap.size → ok b) (hC : ¬ ok R) (hw : Rep w ok whole ws) (hr : Rep w ok x cs) (hc : RdrAt w R n) :
    ∃ f caps, mv = .func (.func f) #[] caps ∧ (∀ (args : Array Value) (W : World), (callFunc f args).run Tryz.prog W = .ok (.enter f args) W) ∧ Calls Tryz.prog f (#[.pointer (some ⟨R, 0, none⟩), .agg ws.toArray, .agg cs.toArray, .int .i64 (d : Int)] ++ caps) w (RRes w R ok x nm ((hasJ whole ⟨#[112, 114, 111, 112, 101, 114, 116, 105, 101, 115]⟩).getD (jnil 0)) (readRule x nm d n)) := by
  have hlt : ∀ {b : Nat} {o : Obj}, Wm.heap[b]? = some o → b < Wm.heap.size := fun h => (Array.getElem?_eq_some_iff.1 h).1
  cases hv with
  | w_type => exact ⟨_, _, rfl, (fun args W => Go.MuLone.run_callFunc_enter (fn := Tryz.f40) (by kernel_rfl) (by kernel_rfl) rfl args W), (makeType_c _ _ whole x _ ws cs w ok hw hr hbk).mono fun _ _ h => rres_leaf (by unfold subW; decide) h hc⟩
  | w_enum => exact ⟨_, _, rfl, (fun args W => Go.MuLone.run_callFunc_enter (fn := Tryz.f41) (by kernel_rfl) (by kernel_rfl) rfl args W), (makeEnum_c _ _ whole x _ ws cs w ok hw hr).mono fun _ _ h => rres_leaf (by unfold subW; decide) h hc⟩
  | w_required => exact ⟨_, _, rfl, (fun args W => Go.MuLone.run_callFunc_enter (fn := Tryz.f42) (by kernel_rfl) (by kernel_rfl) rfl args W), (makeRequired_c _ _ whole x _ ws cs w ok hw hr hbk).mono fun _ _ h => rres_leaf (by unfold subW; decide) h hc⟩
  | w_additional => exact ⟨_, _, rfl, (fun args W => Go.MuLone.run_callFunc_enter (fn := Tryz.f44) (by kernel_rfl) (by kernel_rfl) rfl args W), (makeAdditional_c _ _ whole x ws cs w ok hw hwb hr).mono fun _ _ h => rres_leaf (by unfold subW; decide) h hc⟩
  | w_properties => exact ⟨_, _, rfl, (fun args W => Go.MuLone.run_callFunc_enter (fn := Tryz.f43) (by kernel_rfl) (by kernel_rfl) rfl args W), makeProperties_c m ih d n hd hn whole x _ (by omega) hok hbk ws cs w ok R hC hw hr hc⟩
  | w_items => exact ⟨_, _, rfl, (fun args W => Go.MuLone.run_callFunc_enter (fn := Tryz.f45) (by kernel_rfl) (by kernel_rfl) rfl args W), makeItems_c m ih d n hd hn whole x _ hm hok hbk ws cs w ok R hC hw hr hc⟩
  | w_not => exact ⟨_, _, rfl, (fun args W => Go.MuLone.run_callFunc_enter (fn := Tryz.f58) (by kernel_rfl) (by kernel_rfl) rfl args W), makeNot_c m ih d n hd hn whole x _ hm hok hbk ws cs w ok R hC hw hr hc⟩
  | w_anyOf => exact ⟨_, _, rfl, (fun args W => Go.MuLone.run_callFunc_enter (fn := Tryz.f56) (by kernel_rfl) (by kernel_rfl) rfl args W), makeAny_c m ih d n hd hn whole x _ (by omega) hok hbk ws cs w ok R hC hw hr hc⟩
  | w_allOf => exact ⟨_, _, rfl, (fun args W => Go.MuLone.run_callFunc_enter (fn := Tryz.f57) (by kernel_rfl) (by kernel_rfl) rfl args W), makeAll_c m ih d n hd hn whole x _ (by omega) hok hbk ws cs w ok R hC hw hr hc⟩
  | w_minItems _ h =>
    obtain ⟨b, c, rfl, h1, h2, h3, h4⟩ := h
    exact ⟨_, _, rfl, (fun args W => Go.MuLone.run_callFunc_enter (fn := Tryz.f74) (by kernel_rfl) (by kernel_rfl) rfl args W), (makeSized_c _ _ whole x _ ws cs ⟨#[109, 105, 110, 73, 116, 101, 109, 115]⟩ (.inl rfl) w ok hw hr b c ((hS b h1 (hlt h3)).trans h3) ((hS c h2 (hlt h4)).trans h4) (hokm c h2 (hlt h4))).mono fun _ _ h => rres_leaf (by unfold subW; decide) h hc⟩
  | w_maxItems _ h =>
    obtain ⟨b, c, rfl, h1, h2, h3, h4⟩ := h
    exact ⟨_, _, rfl, (fun args W => Go.MuLone.run_callFunc_enter (fn := Tryz.f74) (by kernel_rfl) (by kernel_rfl) rfl args W), (makeSized_c _ _ whole x _ ws cs ⟨#[109, 97, 120, 73, 116, 101, 109, 115]⟩ (.inr (.inl rfl)) w ok hw hr b c ((hS b h1 (hlt h3)).trans h3) ((hS c h2 (hlt h4)).trans h4) (hokm c h2 (hlt h4))).mono fun _ _ h => rres_leaf (by unfold subW; decide) h hc⟩
  | w_minLength _ h =>
    obtain ⟨b, c, rfl, h1, h2, h3, h4⟩ := h
    exact ⟨_, _, rfl, (fun args W => Go.MuLone.run_callFunc_enter (fn := Tryz.f74) (by kernel_rfl) (by kernel_rfl) rfl args W), (makeSized_c _ _ whole x _ ws cs ⟨#[109, 105, 110, 76, 101, 110, 103, 116, 104]⟩ (.inr (.inr (.inl rfl))) w ok hw hr b c ((hS b h1 (hlt h3)).trans h3) ((hS c h2 (hlt h4)).trans h4) (hokm c h2 (hlt h4))).mono fun _ _ h => rres_leaf (by unfold subW; decide) h hc⟩
  | w_maxLength _ h =>
    obtain ⟨b, c, rfl, h1, h2, h3, h4⟩ := h
    exact ⟨_, _, rfl, (fun args W => Go.MuLone.run_callFunc_enter (fn := Tryz.f74) (by kernel_rfl) (by kernel_rfl) rfl args W), (makeSized_c _ _ whole x _ ws cs ⟨#[109, 97, 120, 76, 101, 110, 103, 116, 104]⟩ (.inr (.inr (.inr rfl))) w ok hw hr b c ((hS b h1 (hlt h3)).trans h3) ((hS c h2 (hlt h4)).trans h4) (hokm c h2 (hlt h4))).mono fun _ _ h => rres_leaf (by unfold subW; decide) h hc⟩
  | w_minimum _ h =>
    obtain ⟨b, c, rfl, h1, h2, h3, h4⟩ := h
    exact ⟨_, _, rfl, (fun args W => Go.MuLone.run_callFunc_enter (fn := Tryz.f76) (by kernel_rfl) (by kernel_rfl) rfl args W), (makeRanged_c _ _ whole x _ ws cs ⟨#[109, 105, 110, 105, 109, 117, 109]⟩ _ (.inl ⟨.inl rfl, rfl⟩) w ok hw hr b c ((hS b h1 (hlt h3)).trans h3) ((hS c h2 (hlt h4)).trans h4) (hokm c h2 (hlt h4))).mono fun _ _ h => rres_leaf (by unfold subW; decide) h hc⟩
  | w_maximum _ h =>
    obtain ⟨b, c, rfl, h1, h2, h3, h4⟩ := h
    exact ⟨_, _, rfl, (fun args W => Go.MuLone.run_callFunc_enter (fn := Tryz.f76) (by kernel_rfl) (by kernel_rfl) rfl args W), (makeRanged_c _ _ whole x _ ws cs ⟨#[109, 97, 120, 105, 109, 117, 109]⟩ _ (.inl ⟨.inr rfl, rfl⟩) w ok hw hr b c ((hS b h1 (hlt h3)).trans h3) ((hS c h2 (hlt h4)).trans h4) (hokm c h2 (hlt h4))).mono fun _ _ h => rres_leaf (by unfold subW; decide) h hc⟩
  | w_divisible _ h =>
    obtain ⟨b, c, rfl, h1, h2, h3, h4⟩ := h
    exact ⟨_, _, rfl, (fun args W => Go.MuLone.run_callFunc_enter (fn := Tryz.f76) (by kernel_rfl) (by kernel_rfl) rfl args W), (makeRanged_c _ _ whole x _ ws cs ⟨#[100, 105, 118, 105, 115, 105, 98, 108, 101]⟩ _ (.inr ⟨rfl, rfl⟩) w ok hw hr b c ((hS b h1 (hlt h3)).trans h3) ((hS c h2 (hlt h4)).trans h4) (hokm c h2 (hlt h4))).mono fun _ _ h => rres_leaf (by unfold subW; decide) h hc⟩
/-- rules, in a list of values -/
def RulesV (w : World) (ok : Nat → Prop) : List JV → List ByteArray → JV → List Value → Prop
  | [], _, _, xs => xs = []
  | _ :: _, [], _, _ => False
  | x :: is, n :: ns, kn, xs => ∃ rv ys, xs = .string n :: rv :: ys ∧ RuleAt w ok x n kn rv ∧ RulesV w ok is ns kn ys
theorem rule_keeps (x : JV) (n : ByteArray) (kn : JV) (rv : Value) : Keeps (fun w ok => RuleAt w ok x n kn rv) := fun _ _ _ _ hk h => RuleAt.kept hk x n kn rv h
theorem rules_keeps : ∀ (is : List JV) (ns : List ByteArray) (kn : JV) (xs : List Value), Keeps (fun w ok => RulesV w ok is ns kn xs)
  | [], _, _, _ => fun _ _ _ _ _ h => h
  | _ :: _, [], _, _ => fun _ _ _ _ _ h => h.elim
  | x :: is, n :: ns, kn, xs => fun w w' ok ok' hk h => by
    obtain ⟨rv, ys, e, h1, h2⟩ := h
    exact ⟨rv, ys, e, RuleAt.kept hk x n kn rv h1, rules_keeps is ns kn ys w w' ok ok' hk h2⟩
theorem RulesV.snoc {w : World} {ok : Nat → Prop} {x kn : JV} {n : ByteArray} {rv : Value} (h : RuleAt w ok x n kn rv) : ∀ {is : List JV} {ns : List ByteArray} {xs : List Value}, is.length = ns.length → RulesV w ok is ns kn xs → RulesV w ok (is ++ [x]) (ns ++ [n]) kn (xs ++ [.string n, rv])
  | [], [], xs, _, hr => by rw [RulesV] at hr; subst hr; exact ⟨rv, [], rfl, h, rfl⟩
  | [], _ :: _, _, hl, _ => by simp at hl
  | _ :: _, [], _, hl, _ => by simp at hl
  | y :: is, a :: ns, xs, hl, hr => by
    obtain ⟨rv2, ys, rfl, h1, h2⟩ := hr
    exact ⟨rv2, ys ++ [.string n, rv], rfl, h1, RulesV.snoc h (by simpa using hl) h2⟩
theorem RulesV.lie {w : World} {ok : Nat → Prop} {kn : JV} {b : Nat} : ∀ {is : List JV} {ns : List ByteArray} {xs : List Value} {off : Nat}, RulesV w ok is ns kn xs → Lie w b off xs → RulesAt w ok is ns kn b off
  | [], _, _, _, _, _ => by rw [RulesAt]; trivial
  | _ :: _, [], _, _, h, _ => h.elim
  | x :: is, n :: ns, xs, off, ⟨rv, ys, e, h1, h2⟩, hl => by
    subst e
    rw [RulesAt]
    refine ⟨⟨rv, fun j v hj => hl j v ?_, h1⟩, RulesV.lie h2 fun j v hj => ?_⟩
    · match j, hj with
      | 0, hj => exact hj
      | 1, hj => exact hj
    · have := hl (j + 2) v (by simpa using hj)
      rwa [show off + (j + 2) = off + 2 + j by omega] at this
end Go.Proofs.YtnmojmmgkipjcaaGreatDoor
