/- The walk of the document's next, at a client; the plain feed. Conditions: what came is shorter than 2 to the 40. -/
import Derived.Test.YtkpickojeghppaaDoorRnext
import Derived.Test.YtkpickojeghppaaDoorRcu
namespace Go.Proofs.YtkpickojeghppaaDoor
open Go.RowKit
/-- what is left of what came -/
def Cl.cut (s : Cl) (k : Nat) : Cl := { s with inp := s.inp.drop k }
/-- the slice of what came is another one -/
theorem rc_inp {w w1 : World} {R : Nat} {V : CV} {vi' : Value} {s : Cl} (h : RCK.At w R V s) (hw : w1 = w.setCell ⟨R, 0, none⟩ vi') (hn : ∀ g, vi'.ownBlock = some g → V.i.ownBlock = some g ∨ w.heap.size ≤ g) (p : List UInt8) (hs : BSlab w vi' p) :
    RCK.At w1 R { V with i := vi' } { s with inp := p } ∧ Turn (RCK.F R V s) w w1 ∧ ∀ g, RCK.F R { V with i := vi' } { s with inp := p } g → RCK.F R V s g ∨ w.heap.size ≤ g := by
  subst hw
  have hne : ∀ g, vi'.ownBlock = some g → g ≠ R := fun g hg e => by
    subst e
    rcases hn g hg with e | e
    · exact h.nR _ (.head _) e
    · have := h.ltR; omega
  have hs2 : BSlab (w.setCell ⟨R, 0, none⟩ vi') vi' p := Slab.same hs (fun g hg => heap_setCell_other _ _ _ _ (hne g hg))
  exact EK.repl (K := RCK) (v2 := { V with i := vi' }) (s2 := { s with inp := p }) [] [⟨1, V.o, s.out.length, bytesV s.out, True⟩, ⟨1, V.q, s.asked.length, numsV s.asked, True⟩, ⟨2, V.r, s.came.length, cameV s.came, True⟩]
    ⟨1, V.i, s.inp.length, bytesV s.inp, s.closed = false⟩ ⟨1, vi', p.length, bytesV p, s.closed = false⟩ rfl rfl h ((Turn.refl (fun g => g = R ∨ _) w).set (.inl (.inl rfl)) 0 vi') (heap_setCell_same _ R 0 _ _ vi' h.blk)
    (fun _ => hs2) (fun g hg => Slab.lt hs2 hg) hn
set_option maxRecDepth 20000 in
set_option maxHeartbeats 4000000 in
theorem rcnext_c (R : Nat) (V : CV) (s : Cl) (hc : s.closed = false) (hl : s.inp.length ≤ 1099511627776) (w : World) (h : RCK.At w R V s) :
    Calls Tryd.prog 57 #[.pointer (some ⟨R, 0, none⟩)] w (RCK.Post R V s w (s.cut (unpack s.inp).len) (.tuple #[.agg (msgV (unpack s.inp).msg).toArray, .int .i64 ((unpack s.inp).err : Int)])) := by
  have hRl := h.ltR
  have hb0 : Below w.heap.size w (w.alloc (.cells #[.int .u32 0, .int .u32 0, .int .i64 0, .string ⟨#[]⟩, .bool false] 27)) := (Below.refl _ _).alloc (Nat.le_refl _) _
  obtain ⟨A, cap, hvi, hnc, hcm, hform⟩ := Slab.form (rc_in h hc)
  have hin := rc_in h hc
  obtain ⟨vi, vo, vq, vr⟩ := V
  simp only at hvi hin
  subst hvi
  have h1 : RCK.At (w.alloc (.cells #[.int .u32 0, .int .u32 0, .int .i64 0, .string ⟨#[]⟩, .bool false] 27)) R ⟨.slice A s.inp.length cap, vo, vq, vr⟩ s := StAt.below h hb0
  have c0 := (rc_cells h1).1.1
  have hB : BytesIn (w.alloc (.cells #[.int .u32 0, .int .u32 0, .int .i64 0, .string ⟨#[]⟩, .bool false] 27)) A s.inp := (rc_in h1 hc).inn
  obtain ⟨r, hr⟩ : ∃ r, unpack s.inp = r := ⟨_, rfl⟩
  obtain ⟨⟨xid, xto, xkind, xbody, xsum⟩, hrm⟩ : ∃ x, r.msg = x := ⟨_, rfl⟩
  obtain ⟨xn, hrn⟩ : ∃ x, r.len = x := ⟨_, rfl⟩
  obtain ⟨xe, hre⟩ : ∃ x, r.err = x := ⟨_, rfl⟩
  have hxn : xn ≤ s.inp.length := by
    rw [← hrn]
    cases hu : unpack s.inp with
    | bad e => rw [← hr, hu]; exact Nat.zero_le _
    | ok m k => rw [← hr, hu]; exact (unpack_ok s.inp (by omega) m k hu).2.2
  have HU := Lib.hid (show Calls Tryd.prog 16 #[.slice A s.inp.length cap] (w.alloc (.cells #[.int .u32 0, .int .u32 0, .int .i64 0, .string ⟨#[]⟩, .bool false] 27)) (fun e w' => e = .returned (.tuple #[.agg #[.int .u32 (xid : Int), .int .u32 (xto : Int), .int .i64 xkind, .string xbody, .bool xsum], .int .i64 (xn : Int), .int .i64 (xe : Int)]) ∧ Below (w.alloc (.cells #[.int .u32 0, .int .u32 0, .int .i64 0, .string ⟨#[]⟩, .bool false] 27)).heap.size (w.alloc (.cells #[.int .u32 0, .int .u32 0, .int .i64 0, .string ⟨#[]⟩, .bool false] 27)) w') from by
    have h := refUnpack_c A cap s.inp (by omega) hnc _ hB
    unfold UnPost at h
    rw [hr, hrm, hrn, hre] at h
    exact h)
  rw [hr, hrm, hrn, hre]
  have H := Lib.hid h
  have HZ := Lib.hid (heap_alloc_new w (.cells #[.int .u32 0, .int .u32 0, .int .i64 0, .string ⟨#[]⟩, .bool false] 27))
  have HB0 := Lib.hid hb0
  have HF := Lib.hid hform
  have HCE := Lib.hid hc
  have hzb : w.heap.size < (w.alloc (.cells #[.int .u32 0, .int .u32 0, .int .i64 0, .string ⟨#[]⟩, .bool false] 27)).heap.size := by simp
  clear h h1 hB hr hrm hrn hre hb0 hform hin hc
  show Calls Tryd.prog 57 #[.pointer (some ⟨R, 0, none⟩)] w (RCK.Post R ⟨.slice A s.inp.length cap, vo, vq, vr⟩ s w (s.cut xn) (.tuple #[.agg #[.int .u32 (xid : Int), .int .u32 (xto : Int), .int .i64 xkind, .string xbody, .bool xsum], .int .i64 (xe : Int)]))
  go_enter Tryd.func57, Tryd.ntmps57
  go_wp2_with fail
  refine HU.out.mono ?_; rintro e w2 ⟨rfl, hb2⟩
  have d0 := cell_below hb2 c0
  have HB2 := Lib.hid hb2
  have H2 := Lib.hid (show RCK.At w2 R ⟨.slice A s.inp.length cap, vo, vq, vr⟩ s from StAt.below H.out (HB0.out.trans (hb2.mono HB0.out.size)))
  have HBW := Lib.hid (HB0.out.trans (hb2.mono HB0.out.size))
  have HZ2 := Lib.hid ((hb2.block _ hzb).trans HZ.out)
  have hzw : w.heap.size < w2.heap.size := Nat.lt_of_lt_of_le hzb hb2.size
  have hRl2 : R < w2.heap.size := by omega
  have f0 := (rc_cells H2.out).2 0
  clear hb2 c0 HU HZ HB0
  obtain ⟨⟨z0, z1, z2, z3, z4⟩, ⟨y0, y1, y2, y3, y4⟩⟩ := cellsOf5 HZ2.out
  have hneB : w.heap.size ≠ R := by omega
  have hcase : (A = none ∧ s.inp = [] ∧ xn = 0 ∧ cap = 0) ∨ ∃ G o, A = some ⟨G, o, none⟩ ∧ BSlab w2 (.slice (some ⟨G, o, none⟩) s.inp.length cap) s.inp := by
    have hs := rc_in H2.out HCE.out
    rcases hs.2 with ⟨h1, h2⟩ | ⟨g, off, c, h1, _⟩
    · injection h1 with e1 e2 e3
      exact .inl ⟨e1, List.eq_nil_of_length_eq_zero e2, by omega, e3⟩
    · injection h1 with e1 e2 e3
      subst e1
      exact .inr ⟨g, off, rfl, hs⟩
  have HFIN := Lib.hid (fun (vi' : Value) (hg : ∀ g, vi'.ownBlock = some g → (Value.slice A s.inp.length cap).ownBlock = some g ∨ w2.heap.size ≤ g) (hs : BSlab w2 vi' (s.inp.drop xn)) => And.intro
    (rc_inp H2.out (vi' := vi') rfl hg (s.inp.drop xn) hs)
    ((heap_setCell_other w2 ⟨R, 0, none⟩ w.heap.size vi' hneB).trans HZ2.out))
  rcases hcase with ⟨rfl, hnil, rfl, rfl⟩ | ⟨G, o, rfl, hBS⟩
  · have hl0 : s.inp.length = 0 := by rw [hnil]; rfl
    have HQ := Lib.hid (HFIN.out (.slice none 0 0) (fun g hg => by cases hg) (by rw [hnil]; exact slab_nil _ _))
    have HL0 := Lib.hid hl0
    clear hl0 hnil HFIN
    go_wp2
    refine bodyPost_ret (results_cell1 rfl _ _ w.heap.size 27 _ (0, 0) _ (by rfl) ((heap_alloc_old _ _ (by simp; omega)).trans (set5 HQ.out.2)) Tryd.underlying27 rfl (by kernel_rfl)) rfl ?_
    exact EK.next_fin HBW.out H.out HQ.out.1.1 HQ.out.1.2.1 HQ.out.1.2.2 (by simp) ((below_set5 (Below.refl _ _) (Nat.le_refl _)).alloc (by simp; omega) _) _
  · have HBS := Lib.hid hBS
    clear hBS
    by_cases hcap : cap - xn = 0
    · have HQ := Lib.hid (HFIN.out (.slice (some ⟨G, o, none⟩) (s.inp.length - xn) 0) (fun g hg => .inl hg) (by have := BSlab.tail HBS.out hxn (o2 := o) (.inr hcap); rwa [hcap] at this))
      clear HFIN
      go_wp2
      refine bodyPost_ret (results_cell1 rfl _ _ w.heap.size 27 _ (0, 0) _ (by rfl) ((heap_alloc_old _ _ (by simp; omega)).trans (set5 HQ.out.2)) Tryd.underlying27 rfl (by kernel_rfl)) rfl ?_
      exact EK.next_fin HBW.out H.out HQ.out.1.1 HQ.out.1.2.1 HQ.out.1.2.2 (by simp) ((below_set5 (Below.refl _ _) (Nat.le_refl _)).alloc (by simp; omega) _) _
    · have hcx : xn ≤ cap := by omega
      have HQ := Lib.hid (HFIN.out (.slice (some ⟨G, o + xn, none⟩) (s.inp.length - xn) (cap - xn)) (fun g hg => .inl hg) (BSlab.tail HBS.out hxn (o2 := o + xn) (.inl rfl)))
      clear HFIN
      go_wp2
      refine bodyPost_ret (results_cell1 rfl _ _ w.heap.size 27 _ (0, 0) _ (by rfl) ((heap_alloc_old _ _ (by simp; omega)).trans (set5 HQ.out.2)) Tryd.underlying27 rfl (by kernel_rfl)) rfl ?_
      exact EK.next_fin HBW.out H.out HQ.out.1.1 HQ.out.1.2.1 HQ.out.1.2.2 (by simp) ((below_set5 (Below.refl _ _) (Nat.le_refl _)).alloc (by simp; omega) _) _
/-- what Feed leaves -/
def Cl.run (n : Nat) (s : Cl) : Cl := (s.feedE n).1.failed (s.feedE n).2
theorem crun_closed (n : Nat) (s : Cl) (h : s.closed = true) : s.run n = s := by
  unfold Cl.run
  rw [cfeedE_stop n s h]
  exact if_pos rfl
theorem crun_bad (n : Nat) (s : Cl) (e : Nat) (h : s.closed = false) (hu : unpack s.inp = .bad e) : s.run (n + 1) = if e = 3 then s else s.stop e := by
  unfold Cl.run
  rw [cfeedE_bad n s e h hu]
  by_cases h3 : e = 3
  · rw [if_pos h3, if_pos h3]; exact if_pos rfl
  · rw [if_neg h3, if_neg h3]; exact if_neg (by have := (unpack_err _ _ hu).1; show ¬ e = 0; omega)
theorem crun_ok (n : Nat) (s : Cl) (m : WMsg) (k : Nat) (h : s.closed = false) (hu : unpack s.inp = .ok m k) : s.run (n + 1) = ((s.cut k).took m).run n := by
  have he := cfeedE_ok n s m k h hu
  unfold Cl.run
  rw [he]
  show (if ((s.cut k).take m).2 = 0 then Cl.feedE n ((s.cut k).take m).1 else (s.cut k).take m).1.failed (if ((s.cut k).take m).2 = 0 then Cl.feedE n ((s.cut k).take m).1 else (s.cut k).take m).2 = _
  unfold Cl.took
  by_cases h0 : ((s.cut k).take m).2 = 0
  · rw [if_pos h0, h0]
    rfl
  · rw [if_neg h0]
    have hc : (((s.cut k).take m).1.failed ((s.cut k).take m).2).closed = true := by unfold Cl.failed; rw [if_neg h0]
    exact (crun_closed n _ hc).symm
theorem rfeed_run (s : Cl) (p : List UInt8) (h : s.closed = false) : s.feed p = ({ s with inp := s.inp ++ p } : Cl).run ((s.inp ++ p).length + 1) := by
  unfold Cl.feed
  rw [if_neg (by rw [h]; decide)]
  rfl
theorem ctook_ok (s : Cl) (m : WMsg) (hok : s.Ok) : (s.took m).Ok ∧ (s.took m).out = s.out ∧ (s.took m).inp = s.inp ∧ (s.took m).came.length ≤ s.came.length + 1 := by
  obtain ⟨a, b, c, d, _⟩ := ctake_ok s m hok
  unfold Cl.took Cl.failed
  split
  · exact ⟨a, b, c, d⟩
  · exact ⟨⟨a.id, a.asked⟩, b, c, d⟩
end Go.Proofs.YtkpickojeghppaaDoor
