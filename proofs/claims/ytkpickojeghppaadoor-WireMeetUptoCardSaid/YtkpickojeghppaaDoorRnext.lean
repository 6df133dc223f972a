/- The walk of the document's next. Conditions: what came is shorter than 2 to the 40. -/
import Derived.Test.YtkpickojeghppaaDoorRfail
import Derived.Test.YtkpickojeghppaaDoorMsgs
namespace Go.Proofs.YtkpickojeghppaaDoor
open Go.RowKit
/-- what is left of what came -/
def Sv.cut (s : Sv) (k : Nat) : Sv := { s with inp := s.inp.drop k }
/-- the slice of what came is another one -/
theorem rs_came {w w1 : World} {R : Nat} {V : RV} {vi' : Value} {s : Sv} (h : RSK.At w R V s) (hw : w1 = w.setCell ⟨R, 0, none⟩ vi') (hn : ∀ g, vi'.ownBlock = some g → V.i.ownBlock = some g ∨ w.heap.size ≤ g) (p : List UInt8) (hs : BSlab w vi' p) :
    RSK.At w1 R { V with i := vi' } { s with inp := p } ∧ Turn (RSK.F R V s) w w1 ∧ ∀ g, RSK.F R { V with i := vi' } { s with inp := p } g → RSK.F R V s g ∨ w.heap.size ≤ g := by
  subst hw
  have hne : ∀ g, vi'.ownBlock = some g → g ≠ R := fun g hg e => by
    subst e
    rcases hn g hg with e | e
    · exact h.nR _ (.head _) e
    · have := h.ltR; omega
  have hs2 : BSlab (w.setCell ⟨R, 0, none⟩ vi') vi' p := Slab.same hs (fun g hg => heap_setCell_other _ _ _ _ (hne g hg))
  exact EK.repl (K := RSK) (v2 := { V with i := vi' }) (s2 := { s with inp := p }) [] [⟨1, V.o, s.out.length, bytesV s.out, True⟩, ⟨3, V.h, s.held.length, heldV s.held, True⟩]
    ⟨1, V.i, s.inp.length, bytesV s.inp, s.closed = false ∧ s.ending = false⟩ ⟨1, vi', p.length, bytesV p, s.closed = false ∧ s.ending = false⟩ rfl rfl h ((Turn.refl (fun g => g = R ∨ _) w).set (.inl (.inl rfl)) 0 vi') (heap_setCell_same _ R 0 _ _ vi' h.blk)
    (fun _ => hs2) (fun g hg => Slab.lt hs2 hg) hn
theorem results_cell1 {P : Program} {fn : Func} {p t : Tmp} {ty : TypeId} (h : fn.results = #[.cell p ty, .tmp t]) (tmps : Array Value) (w : World) (g : Nat) (T : TypeId) (cs : Array Value) (fr : Nat × Nat) (d : TypeDesc)
    (hp : tmps.getD p undef = .pointer (some ⟨g, 0, none⟩)) (hg : w.heap[g]? = some (.cells cs T fr))
    (hu : P.underlying ty = some d) (hd : (match d with | .struct _ | .array _ _ => true | _ => false) = true) (hi : (P.info? ty).map (·.size) = some cs.size) :
    (results fn tmps).run P w = .ok (.tuple #[.agg cs, tmps.getD t undef]) w := by
  have hp' : tmps[p]?.getD undef = .pointer (some ⟨g, 0, none⟩) := by simpa using hp
  simp [results, h, hp', asAddr, run_loadVar_row w g T ty cs fr d hg hu hd hi]
theorem Turn.of_belowB {B : Nat} {a b : World} (h : Below B a b) : Turn (fun g => B ≤ g) a b := ⟨h.os, h.tape, h.output, h.size, fun i _ hn => h.block i (by omega)⟩
theorem EK.next_fin {V S : Type} {K : EK V S} {R : Nat} {v v' : V} {s s' : S} {w w2 w1 wf : World} (hbw : Below w.heap.size w w2) (h : K.At w R v s) (h1 : K.At w1 R v' s') (ht : Turn (K.F R v s) w2 w1) (hn : ∀ g, K.F R v' s' g → K.F R v s g ∨ w2.heap.size ≤ g) (hsz : w1.heap.size = w2.heap.size) (hbf : Below w.heap.size w1 wf) (r : Value) : K.Post R v s w s' r (.returned r) wf := by
  have hF := EK.F_lt h
  have hF1 := EK.F_lt h1
  have key : ∀ g, K.F R v' s' g → K.F R v s g := fun g hg => (hn g hg).elim id (fun e => by have := hF1 g hg; omega)
  refine ⟨v', rfl, StAt.turn h1 (Turn.of_belowB hbf) (fun g hg e => by have := hF g (key g hg); omega), ?_, fun g hg => .inl (key g hg)⟩
  exact ((Turn.of_below hbw).trans (ht.weak (fun g hg => .inl hg))).trans ((Turn.of_belowB hbf).weak (fun g hg => .inr hg))
set_option maxRecDepth 20000 in
set_option maxHeartbeats 4000000 in
theorem rnext_c (R : Nat) (V : RV) (s : Sv) (hc : s.closed = false) (he : s.ending = false) (hl : s.inp.length ≤ 1099511627776) (w : World) (h : RSK.At w R V s) :
    Calls Tryd.prog 57 #[.pointer (some ⟨R, 0, none⟩)] w (RSK.Post R V s w (s.cut (unpack s.inp).len) (.tuple #[.agg (msgV (unpack s.inp).msg).toArray, .int .i64 ((unpack s.inp).err : Int)])) := by
  have hRl := h.ltR
  have hb0 : Below w.heap.size w (w.alloc (.cells #[.int .u32 0, .int .u32 0, .int .i64 0, .string ⟨#[]⟩, .bool false] 27)) := (Below.refl _ _).alloc (Nat.le_refl _) _
  obtain ⟨A, cap, hvi, hnc, hcm, hform⟩ := Slab.form (rs_in h hc he)
  have hin := rs_in h hc he
  obtain ⟨vi, vo, vh⟩ := V
  simp only at hvi hin
  subst hvi
  have h1 : RSK.At (w.alloc (.cells #[.int .u32 0, .int .u32 0, .int .i64 0, .string ⟨#[]⟩, .bool false] 27)) R ⟨.slice A s.inp.length cap, vo, vh⟩ s := StAt.below h hb0
  have c0 := (rs_cells h1).1.1
  have hB : BytesIn (w.alloc (.cells #[.int .u32 0, .int .u32 0, .int .i64 0, .string ⟨#[]⟩, .bool false] 27)) A s.inp := (rs_in h1 hc he).inn
  obtain ⟨r, hr⟩ : ∃ r, unpack s.inp = r := ⟨_, rfl⟩
  obtain ⟨⟨xid, xto, xkind, xbody, xsum⟩, hrm⟩ : ∃ x, r.msg = x := ⟨_, rfl⟩
  obtain ⟨xn, hrn⟩ : ∃ x, r.len = x := ⟨_, rfl⟩
  obtain ⟨xe, hre⟩ : ∃ x, r.err = x := ⟨_, rfl⟩
  have hxn : xn ≤ s.inp.length := by
    rw [← hrn]
    cases hu : unpack s.inp with
    | bad e => rw [← hr, hu]; exact Nat.zero_le _
    | ok m k => rw [← hr, hu]; exact (unpack_ok s.inp (by omega) m k hu).2.2
  have HU := Lib.hid (show Calls Tryd.prog 16 #[.slice A s.inp.length cap] (w.alloc (.cells #[.int .u32 0, .int .u32 0, .int .i64 0, .string ⟨#[]⟩, .bool false] 27)) (fun e w' => e = .returned (.tuple #[.agg #[.int .u32 (xid : Int), .int .u32 (xto : Int), .int .i64 xkind, .string xbody, .bool xsum], .int .i64 (xn : Int), .int .i64 (xe : Int)]) ∧ Below (w.alloc (.cells #[.int .u32 0, .int .u32 0, .int .i64 0, .string ⟨#[]⟩, .bool false] 27)).heap.size (w.alloc (.cells #[.int .u32 0, .int .u32 0, .int .i64 0, .string ⟨#[]⟩, .bool false] 27)) w') from by
    have h := refUnpack_c A cap s.inp (by omega) hnc _ hB
    unfold UnPost at h
    rw [hr, hrm, hrn, hre] at h
    exact h)
  rw [hr, hrm, hrn, hre]
  have H := Lib.hid h
  have HZ := Lib.hid (heap_alloc_new w (.cells #[.int .u32 0, .int .u32 0, .int .i64 0, .string ⟨#[]⟩, .bool false] 27))
  have HB0 := Lib.hid hb0
  have HF := Lib.hid hform
  have HCE := Lib.hid (And.intro hc he)
  have hzb : w.heap.size < (w.alloc (.cells #[.int .u32 0, .int .u32 0, .int .i64 0, .string ⟨#[]⟩, .bool false] 27)).heap.size := by simp
  clear h h1 hB hr hrm hrn hre hb0 hform hin hc he
  show Calls Tryd.prog 57 #[.pointer (some ⟨R, 0, none⟩)] w (RSK.Post R ⟨.slice A s.inp.length cap, vo, vh⟩ s w (s.cut xn) (.tuple #[.agg #[.int .u32 (xid : Int), .int .u32 (xto : Int), .int .i64 xkind, .string xbody, .bool xsum], .int .i64 (xe : Int)]))
  go_enter Tryd.func57, Tryd.ntmps57
  go_wp2_with fail
  refine HU.out.mono ?_; rintro e w2 ⟨rfl, hb2⟩
  have d0 := cell_below hb2 c0
  have HB2 := Lib.hid hb2
  have H2 := Lib.hid (show RSK.At w2 R ⟨.slice A s.inp.length cap, vo, vh⟩ s from StAt.below H.out (HB0.out.trans (hb2.mono HB0.out.size)))
  have HBW := Lib.hid (HB0.out.trans (hb2.mono HB0.out.size))
  have HZ2 := Lib.hid ((hb2.block _ hzb).trans HZ.out)
  have hzw : w.heap.size < w2.heap.size := Nat.lt_of_lt_of_le hzb hb2.size
  have hRl2 : R < w2.heap.size := by omega
  have f0 := (rs_cells H2.out).2 0
  clear hb2 c0 HU HZ HB0
  obtain ⟨⟨z0, z1, z2, z3, z4⟩, ⟨y0, y1, y2, y3, y4⟩⟩ := cellsOf5 HZ2.out
  have hneB : w.heap.size ≠ R := by omega
  have hcase : (A = none ∧ s.inp = [] ∧ xn = 0 ∧ cap = 0) ∨ ∃ G o, A = some ⟨G, o, none⟩ ∧ BSlab w2 (.slice (some ⟨G, o, none⟩) s.inp.length cap) s.inp := by
    have hs := rs_in H2.out HCE.out.1 HCE.out.2
    rcases hs.2 with ⟨h1, h2⟩ | ⟨g, off, c, h1, _⟩
    · injection h1 with e1 e2 e3
      exact .inl ⟨e1, List.eq_nil_of_length_eq_zero e2, by omega, e3⟩
    · injection h1 with e1 e2 e3
      subst e1
      exact .inr ⟨g, off, rfl, hs⟩
  have HFIN := Lib.hid (fun (vi' : Value) (hg : ∀ g, vi'.ownBlock = some g → (Value.slice A s.inp.length cap).ownBlock = some g ∨ w2.heap.size ≤ g) (hs : BSlab w2 vi' (s.inp.drop xn)) => And.intro
    (rs_came H2.out (vi' := vi') rfl hg (s.inp.drop xn) hs)
    ((heap_setCell_other w2 ⟨R, 0, none⟩ w.heap.size vi' hneB).trans HZ2.out))
  rcases hcase with ⟨rfl, hnil, rfl, rfl⟩ | ⟨G, o, rfl, hBS⟩
  · have hl0 : s.inp.length = 0 := by rw [hnil]; rfl
    have HQ := Lib.hid (HFIN.out (.slice none 0 0) (fun g hg => by cases hg) (by rw [hnil]; exact slab_nil _ _))
    have HL0 := Lib.hid hl0
    clear hl0 hnil HFIN
    go_wp2
    refine bodyPost_ret (results_cell1 rfl _ _ w.heap.size 27 _ (0, 0) _ (by rfl) ((heap_alloc_old _ _ (by simp; omega)).trans (set5 HQ.out.2)) Tryd.underlying27 rfl (by kernel_rfl)) rfl ?_
    exact EK.next_fin HBW.out H.out HQ.out.1.1 HQ.out.1.2.1 HQ.out.1.2.2 (by simp) ((below_set5 (Below.refl _ _) (Nat.le_refl _)).alloc (by simp; omega) _) _
  · have HBS := Lib.hid hBS
    clear hBS
    by_cases hcap : cap - xn = 0
    · have HQ := Lib.hid (HFIN.out (.slice (some ⟨G, o, none⟩) (s.inp.length - xn) 0) (fun g hg => .inl hg) (by have := BSlab.tail HBS.out hxn (o2 := o) (.inr hcap); rwa [hcap] at this))
      clear HFIN
      go_wp2
      refine bodyPost_ret (results_cell1 rfl _ _ w.heap.size 27 _ (0, 0) _ (by rfl) ((heap_alloc_old _ _ (by simp; omega)).trans (set5 HQ.out.2)) Tryd.underlying27 rfl (by kernel_rfl)) rfl ?_
      exact EK.next_fin HBW.out H.out HQ.out.1.1 HQ.out.1.2.1 HQ.out.1.2.2 (by simp) ((below_set5 (Below.refl _ _) (Nat.le_refl _)).alloc (by simp; omega) _) _
    · have hcx : xn ≤ cap := by omega
      have HQ := Lib.hid (HFIN.out (.slice (some ⟨G, o + xn, none⟩) (s.inp.length - xn) (cap - xn)) (fun g hg => .inl hg) (BSlab.tail HBS.out hxn (o2 := o + xn) (.inl rfl)))
      clear HFIN
      go_wp2
      refine bodyPost_ret (results_cell1 rfl _ _ w.heap.size 27 _ (0, 0) _ (by rfl) ((heap_alloc_old _ _ (by simp; omega)).trans (set5 HQ.out.2)) Tryd.underlying27 rfl (by kernel_rfl)) rfl ?_
      exact EK.next_fin HBW.out H.out HQ.out.1.1 HQ.out.1.2.1 HQ.out.1.2.2 (by simp) ((below_set5 (Below.refl _ _) (Nat.le_refl _)).alloc (by simp; omega) _) _
end Go.Proofs.YtkpickojeghppaaDoor
