/- The walk of the client Feed. Conditions: what the laws name. -/
import Derived.Test.YtkpickojeghppaaDoorClia
namespace Go.Proofs.YtkpickojeghppaaDoor
open Go.RowKit
def Cl.feedE : Nat → Cl → Cl × Nat
  | 0, s => (s, 0)
  | n + 1, s => if s.closed then (s, 0) else
    match unpack s.inp with
    | .bad e => if e = 3 then (s, 0) else (s, e)
    | .ok m k => if (({ s with inp := s.inp.drop k } : Cl).take m).2 = 0 then Cl.feedE n (({ s with inp := s.inp.drop k } : Cl).take m).1 else ({ s with inp := s.inp.drop k } : Cl).take m
theorem cfeedE_stop (n : Nat) (s : Cl) (h : s.closed = true) : s.feedE n = (s, 0) := by
  cases n with
  | zero => rfl
  | succ n => rw [Cl.feedE, if_pos h]
theorem cfeedE_bad (n : Nat) (s : Cl) (e : Nat) (h : s.closed = false) (hu : unpack s.inp = .bad e) : s.feedE (n + 1) = if e = 3 then (s, 0) else (s, e) := by rw [Cl.feedE, if_neg (by rw [h]; decide), hu]
theorem cfeedE_ok (n : Nat) (s : Cl) (m : WMsg) (k : Nat) (h : s.closed = false) (hu : unpack s.inp = .ok m k) : s.feedE (n + 1) = if (({ s with inp := s.inp.drop k } : Cl).take m).2 = 0 then Cl.feedE n (({ s with inp := s.inp.drop k } : Cl).take m).1 else ({ s with inp := s.inp.drop k } : Cl).take m := by rw [Cl.feedE, if_neg (by rw [h]; decide), hu]
theorem unpack_body (l : List UInt8) (m : WMsg) (k : Nat) (h : unpack l = .ok m k) : m.body.size ≤ l.length := by
  have hb : ∀ a b, (bodyOf l a b).size ≤ l.length := fun a b => by
    show (((l.take b).drop a).toArray).size ≤ _
    simp; omega
  unfold unpack at h
  repeat' (split at h)
  all_goals (first | cases h | skip)
  unfold whole at h
  repeat' (split at h)
  all_goals (first | cases h | skip)
  all_goals exact hb _ _
/-- what a message leaves -/
theorem ctake_ok (s : Cl) (m : WMsg) (hok : s.Ok) : (s.take m).1.Ok ∧ (s.take m).1.out = s.out ∧ (s.take m).1.inp = s.inp ∧ (s.take m).1.came.length ≤ s.came.length + 1 ∧ (s.take m).2 ≤ 999 := by
  unfold Cl.take
  split
  · split
    · exact ⟨hok, rfl, rfl, by simp, by simp⟩
    · exact ⟨⟨hok.id, hok.asked⟩, rfl, rfl, by simp, by simp⟩
  · split
    · split
      · exact ⟨hok, rfl, rfl, by simp, by simp⟩
      · rename_i x r hx
        split
        · exact ⟨⟨hok.id, by have := hok.asked; rw [hx] at this; simp at this ⊢; omega⟩, rfl, rfl, by simp, by simp⟩
        · exact ⟨hok, rfl, rfl, by simp, by simp⟩
    · split
      · split
        · exact ⟨⟨hok.id, hok.asked⟩, rfl, rfl, by simp, by simp⟩
        · exact ⟨hok, rfl, rfl, by simp, by simp⟩
      · split
        · refine ⟨hok, rfl, rfl, by simp, ?_⟩
          simp only
          split
          · split <;> omega
          · omega
        · exact ⟨hok, rfl, rfl, by simp, by simp⟩
theorem ctake_c (R : Nat) (V : CV) (s : Cl) (hc : s.closed = false) (hok : s.Ok) (hcl : s.came.length ≤ 1099511627776) (m : WMsg) (hs : m.body.size ≤ 281474976710656) (w : World) (h : CK.X w R V s) :
    Calls Tryd.prog (if s.began then 76 else 67) #[.pointer (some ⟨R, 0, none⟩), .agg (msgV m).toArray] w (CK.Post R V s w (s.take m).1 (.int .i64 ((s.take m).2 : Int))) := by
  cases hb : s.began with
  | true => exact clLater_c R V s hb hok hcl m hs w h
  | false => exact welcome_c R V s hb hc m w h.at_
/-- how much is left to read -/
theorem cleftW_lt {R : Nat} {w : World} {V : CV} {s : Cl} (h : CK.At w R V s) (n : Nat) (hn : s.inp.length < n) : leftW R w < n + 1 := by
  unfold leftW
  obtain ⟨⟨c0, _, c2, c3, _⟩, _⟩ := cl_cells h
  rw [c2, c3, c0]
  split
  · rename_i h1 h2
    injection h1 with h1; injection h1 with h1
    obtain ⟨A, cap, e, _⟩ := (cl_in h (by simpa using h1)).form
    rw [e]
    simp only [lenOf]
    omega
  · omega
theorem cleftW_eq {R : Nat} {w : World} {V : CV} {s : Cl} (h : CK.At w R V s) (hc : s.closed = false) : leftW R w = s.inp.length + 1 := by
  unfold leftW
  obtain ⟨⟨c0, _, c2, c3, _⟩, _⟩ := cl_cells h
  rw [c2, c3, c0, hc]
  obtain ⟨A, cap, e, _⟩ := (cl_in h hc).form
  rw [e]
  rfl
/-- what came is other -/
theorem cl_came_in {w w1 : World} {R : Nat} {V : CV} {vi' : Value} {s : Cl} (h : CK.At w R V s) (ht : Turn (fun g => V.i.ownBlock = some g) w w1) (hn : ∀ g, vi'.ownBlock = some g → V.i.ownBlock = some g ∨ w.heap.size ≤ g) (p : List UInt8) (hs : BSlab w1 vi' p) :
    CK.At (w1.setCell ⟨R, 0, none⟩ vi') R { V with i := vi' } { s with inp := p } ∧ Turn (CK.F R V s) w (w1.setCell ⟨R, 0, none⟩ vi') ∧ ∀ g, CK.F R { V with i := vi' } { s with inp := p } g → CK.F R V s g ∨ w.heap.size ≤ g := by
  have hR := h.ltR
  have hb1 : w1.heap[R]? = some (.cells (clCells R V s) 118 (0, 0)) := ht.obj h.blk (fun e => h.nR _ (.head _) e)
  have hne : ∀ g, vi'.ownBlock = some g → g ≠ R := fun g hg e => by
    subst e
    rcases hn g hg with e | e
    · exact h.nR _ (.head _) e
    · omega
  have hs2 : BSlab (w1.setCell ⟨R, 0, none⟩ vi') vi' p := Slab.same hs (fun g hg => heap_setCell_other _ _ _ _ (hne g hg))
  exact EK.repl (K := CK) (v2 := { V with i := vi' }) (s2 := { s with inp := p }) [] [⟨1, V.o, s.out.length, bytesV s.out, True⟩, ⟨1, V.q, s.asked.length, numsV s.asked, True⟩, ⟨2, V.r, s.came.length, cameV s.came, True⟩]
    ⟨1, V.i, s.inp.length, bytesV s.inp, s.closed = false⟩ ⟨1, vi', p.length, bytesV p, s.closed = false⟩ rfl rfl h ((ht.weak (fun g hg => .inr hg)).set (.inl (.inl rfl)) 0 vi') (heap_setCell_same _ R 0 _ _ vi' hb1)
    (fun _ => hs2) (fun g hg => Slab.lt hs2 hg) hn
/-- what holds at the loop's head -/
structure FcAt (w : World) (R : Nat) (V : CV) (w0 : World) (V0 : CV) (s0 : Cl) (n0 : Nat) (s : Cl) (n : Nat) (z : Cl) : Prop where
  x : CK.X w R V s
  turn : Turn (CK.F R V0 z) w0 w
  new : ∀ g, CK.F R V s g → CK.F R V0 z g ∨ w0.heap.size ≤ g
  fuel : s.inp.length < n
  same : s.feedE n = s0.feedE n0
  ok : s.Ok
  room : s.came.length + s.inp.length ≤ 1099511627776
section
variable {w : World} {R : Nat} {V : CV} {w0 : World} {V0 : CV} {s0 : Cl} {n0 : Nat} {s z : Cl} {n : Nat}
theorem FcAt.post (h : FcAt w R V w0 V0 s0 n0 s n z) {s2 : Cl} {e : Nat} (he : s.feedE n = (s2, e)) {V' : CV} {w' : World} (h2 : CK.At w' R V' s2) (ht : Turn (CK.F R V s) w w') (hn : ∀ g, CK.F R V' s2 g → CK.F R V s g ∨ w.heap.size ≤ g) :
    CK.Post R V0 z w0 (s0.feedE n0).1 (.int .i64 ((s0.feedE n0).2 : Int)) (.returned (.int .i64 (e : Int))) w' := by
  rw [← h.same, he]
  exact EK.seq h.turn h.new ⟨V', rfl, h2, ht, hn⟩
/-- a message more has been taken -/
theorem FcAt.next (h : FcAt w R V w0 V0 s0 n0 s (n + 1) z) (hc : s.closed = false) {m : WMsg} {k : Nat} (hu : unpack s.inp = .ok m k) {s4 : Cl} (ht4 : ({ s with inp := s.inp.drop k } : Cl).take m = (s4, 0)) {V3 : CV} {w3 : World} (hx : CK.X w3 R V3 s4) (ht : Turn (CK.F R V0 z) w0 w3) (hn : ∀ g, CK.F R V3 s4 g → CK.F R V0 z g ∨ w0.heap.size ≤ g) :
    FcAt w3 R V3 w0 V0 s0 n0 s4 n z ∧ leftW R w3 < leftW R w := by
  have hr := h.room
  obtain ⟨hm, hk, hkl⟩ := unpack_ok s.inp (by omega) m k hu
  obtain ⟨a1, a2, a3, a4, _⟩ := ctake_ok { s with inp := s.inp.drop k } m ⟨h.ok.id, h.ok.asked⟩
  rw [ht4] at a1 a2 a3 a4
  simp only at a1 a2 a3 a4
  have hl : s4.inp.length = s.inp.length - k := by rw [a3, List.length_drop]
  have hf := h.fuel
  refine ⟨⟨hx, ht, hn, by omega, ?_, a1, by omega⟩, ?_⟩
  · rw [← h.same, cfeedE_ok n s m k hc hu, ht4]; rfl
  · rw [cleftW_eq h.x.at_ hc]
    exact cleftW_lt hx.at_ s.inp.length (by omega)
theorem FcAt.halt (h : FcAt w R V w0 V0 s0 n0 s (n + 1) z) (hc : s.closed = false) {m : WMsg} {k : Nat} (hu : unpack s.inp = .ok m k) {s4 : Cl} {e4 : Nat} (ht4 : ({ s with inp := s.inp.drop k } : Cl).take m = (s4, e4)) (h4 : e4 ≠ 0) {V3 : CV} {w3 : World} (hx : CK.X w3 R V3 s4) (ht : Turn (CK.F R V0 z) w0 w3) (hn : ∀ g, CK.F R V3 s4 g → CK.F R V0 z g ∨ w0.heap.size ≤ g) :
    CK.Post R V0 z w0 (s0.feedE n0).1 (.int .i64 ((s0.feedE n0).2 : Int)) (.returned (.int .i64 (e4 : Int))) w3 := by
  have : s0.feedE n0 = (s4, e4) := by rw [← h.same, cfeedE_ok n s m k hc hu, ht4]; exact if_neg h4
  rw [this]
  exact ⟨V3, rfl, hx.at_, ht, hn⟩
end
/-- behind a message: what came is shorter; the message is taken -/
theorem cfed_c {R : Nat} {vo vq vr : Value} {w0 : World} {V0 : CV} {s0 s z : Cl} {n0 n G o cap : Nat} {w : World} (HF : FcAt w R ⟨.slice (some ⟨G, o, none⟩) s.inp.length cap, vo, vq, vr⟩ w0 V0 s0 n0 s (n + 1) z) (hc : s.closed = false) {w2 : World} (hb : Below w.heap.size w w2) (m : WMsg) (hm : m.body.size ≤ 281474976710656) (k : Nat) (hk : k ≤ s.inp.length) (o2 c2 : Nat) (hc2 : c2 = cap - k) (hp : o2 = o + k ∨ cap - k = 0) (W3 : World) (hbq : Below (w2.setCell ⟨R, 0, none⟩ (.slice (some ⟨G, o2, none⟩) (s.inp.length - k) c2)).heap.size (w2.setCell ⟨R, 0, none⟩ (.slice (some ⟨G, o2, none⟩) (s.inp.length - k) c2)) W3) :
    Calls Tryd.prog (if s.began then 76 else 67) #[.pointer (some ⟨R, 0, none⟩), .agg (msgV m).toArray] W3 (fun e w3 => ∃ V3, e = .returned (.int .i64 ((({ s with inp := s.inp.drop k } : Cl).take m).2 : Int)) ∧ Hid (CK.X w3 R V3 (({ s with inp := s.inp.drop k } : Cl).take m).1) ∧ Hid (Turn (CK.F R V0 z) w0 w3) ∧ Hid (∀ g, CK.F R V3 (({ s with inp := s.inp.drop k } : Cl).take m).1 g → CK.F R V0 z g ∨ w0.heap.size ≤ g)) := by
  subst hc2
  have h2 := HF.x.below hb
  have hs := BSlab.tail (cl_in h2.at_ hc) hk hp
  obtain ⟨h3, ht3, hn3⟩ := cl_came_in h2.at_ (Turn.refl _ _) (vi' := .slice (some ⟨G, o2, none⟩) (s.inp.length - k) (cap - k)) (fun g hg => .inl hg) _ hs
  have hx3 := h2.of h3 ht3 hn3
  have hx4 := hx3.below hbq
  refine (ctake_c R _ { s with inp := s.inp.drop k } hc ⟨HF.ok.id, HF.ok.asked⟩ (by have := HF.room; show s.came.length ≤ _; omega) m hm _ hx4).mono ?_
  rintro e w3 ⟨V3, he3, h5, ht5, hn5⟩
  have hT : Turn (CK.F R V0 z) w0 W3 :=
    (HF.turn.trans ((((Turn.of_below hb).trans (ht3.weak (fun g hg => .inl hg))).trans (Turn.of_below hbq)).weak HF.new))
  have hN : ∀ g, CK.F R ⟨.slice (some ⟨G, o2, none⟩) (s.inp.length - k) (cap - k), vo, vq, vr⟩ { s with inp := s.inp.drop k } g → CK.F R V0 z g ∨ w0.heap.size ≤ g := fun g hg => (hn3 g hg).elim (HF.new g) (fun e => .inr (Nat.le_trans (Nat.le_trans HF.turn.size hb.size) e))
  exact ⟨V3, he3, Lib.hid (hx4.of h5 ht5 hn5), Lib.hid (hT.trans (ht5.weak hN)), Lib.hid (fun g hg => (hn5 g hg).elim (hN g) (fun e => .inr (Nat.le_trans hT.size e)))⟩
end Go.Proofs.YtkpickojeghppaaDoor
namespace Go.Proofs.YtkpickojeghppaaDoor
open Go.RowKit
set_option maxRecDepth 20000 in
set_option maxHeartbeats 8000000 in
theorem clfeed_c (R : Nat) (V : CV) (s : Cl) (hok : s.Ok) (pv : Value) (p : List UInt8) (w : World) (hp : Src Tryd.prog 1 28 pv p.length (bytesV p) w) (hroom : s.came.length + (s.inp.length + p.length) ≤ 1099511627776) (hc : s.closed = false) (h : CK.X w R V s) :
    Calls Tryd.prog 56 #[.pointer (some ⟨R, 0, none⟩), pv] w (CK.Post R V s w (Cl.feedE ((s.inp ++ p).length + 1) { s with inp := s.inp ++ p }).1 (.int .i64 ((Cl.feedE ((s.inp ++ p).length + 1) { s with inp := s.inp ++ p }).2 : Int))) := by
  obtain ⟨⟨c0, _, c2, c3, _⟩, hf⟩ := cl_cells h.at_
  have f0 := hf 0
  rw [hc] at c2
  have hin := cl_in h.at_ hc
  have hRl := h.at_.ltR
  obtain ⟨vi, vo, vq, vr⟩ := V
  have HI := Lib.hid hin
  have HP := Lib.hid hp
  have H := Lib.hid h
  have HOK := Lib.hid hok
  have HCL := Lib.hid hc
  clear h hp hf hin hok hc
  go_enter Tryd.func56, Tryd.ntmps56
  go_wp2_with (at_builtin; refine wpList_slab bytTy 28 (by rfl) _ _ (by rfl) vi s.inp.length (bytesV s.inp) (by rfl) HI.out pv (by rfl) p.length (bytesV p) HP.out (by unfold maxLen; omega) (by omega) ?_; intro v2 w2 hs2 hu2; have hS2 : BSlab w2 v2 (s.inp ++ p) := (by unfold BSlab; rw [bytesV_append, List.length_append]; exact hs2); have ht2 : Turn (fun g => vi.ownBlock = some g) w w2 := (Turn.refl _ w).upd hu2 (fun g hg => .inl hg); have hn2 : ∀ g, v2.ownBlock = some g → vi.ownBlock = some g ∨ w.heap.size ≤ g := (fun g hg => hu2.own.elim (fun e => .inl (by rw [← e]; exact hg)) (fun ⟨q, e, hq⟩ => .inr (by rw [e] at hg; rw [← Option.some.inj hg]; exact hq))); have HC := Lib.hid (cl_came_in H.out.at_ ht2 hn2 (s.inp ++ p) hS2); have hb2 := ht2.obj H.out.at_.blk (fun e => H.out.at_.nR _ (.head _) e); have d0 := cell_of_row _ _ 0 _ _ _ hb2; have e0 := frozen_of_row _ _ 0 _ _ hb2; obtain ⟨A2, cap2, hv2, hc21, hc22, _⟩ := Slab.form hs2; subst hv2; clear hs2 hu2 hS2 ht2 hn2 hb2)
  have HF0 := Lib.hid (show FcAt (w2.setCell ⟨R, 0, none⟩ (.slice A2 (s.inp.length + p.length) cap2)) R ⟨.slice A2 (s.inp.length + p.length) cap2, vo, vq, vr⟩ w ⟨vi, vo, vq, vr⟩ { s with inp := s.inp ++ p } ((s.inp ++ p).length + 1) { s with inp := s.inp ++ p } ((s.inp ++ p).length + 1) s from
    ⟨H.out.of HC.out.1 HC.out.2.1 HC.out.2.2, HC.out.2.1, HC.out.2.2, Nat.lt_succ_self _, rfl, ⟨HOK.out.id, HOK.out.asked⟩, by show s.came.length + (s.inp ++ p).length ≤ _; rw [List.length_append]; exact hroom⟩)
  clear HC d0 e0 c0 c2 c3 f0
  go_loopw [5, 6, 7, 8] (fun _ _ _ _ wr => ∃ (s' : Cl) (n : Nat) (V' : CV), Hid (FcAt wr R V' w ⟨vi, vo, vq, vr⟩ { s with inp := s.inp ++ p } ((s.inp ++ p).length + 1) s' n s)) (fun _ _ _ _ wr => leftW R wr)
  case atStart => exact ⟨_, _, _, HF0⟩
  case round =>
    obtain ⟨s', n, V', HF⟩ := hrel
    obtain ⟨⟨c0, _, c2, c3, _, _, c6, _⟩, hf⟩ := cl_cells HF.out.x.at_
    have f0 := hf 0
    clear hf
    cases hcl : s'.closed with
    | true =>
      have HE := Lib.hid (cfeedE_stop n s' hcl)
      rw [hcl] at c2
      go_wp2
      go_ret
      exact HF.out.post HE.out HF.out.x.at_ (Turn.refl _ _) (fun _ hg => .inl hg)
    | false =>
      rw [hcl] at c2
      obtain ⟨vi', vo', vq', vr'⟩ := V'
      have hin' := cl_in HF.out.x.at_ hcl
      simp only at hin' c0
      obtain ⟨A3, cap3, rfl, hc31, hc32, hB⟩ := hin'.bytes
      have hil : s'.inp.length ≤ 1099511627776 := by have := HF.out.room; omega
      have hU := unpack_c A3 cap3 s'.inp hil hc31 wr hB
      obtain ⟨n, rfl⟩ : ∃ k, n = k + 1 := ⟨n - 1, by have := HF.out.fuel; omega⟩
      cases hu : unpack s'.inp with
      | bad ee =>
        rw [hu] at hU
        have HE := Lib.hid (cfeedE_bad n s' ee hcl hu)
        have hU' : Calls Tryd.prog 15 #[.slice A3 s'.inp.length cap3] wr (fun e w' => e = .returned (.tuple #[.agg #[.int .u32 0, .int .u32 0, .int .i64 0, .string ⟨#[]⟩, .bool false], .int .i64 0, .int .i64 (ee : Int)]) ∧ Below wr.heap.size wr w') := hU
        have HU := Lib.hid hU'
        clear hU hU' hB f0
        by_cases h3 : ee = 3
        · have HE3 := Lib.hid (HE.out.trans (if_pos h3))
          subst h3
          go_wp2_with fail
          refine HU.out.mono ?_; rintro e w2 ⟨rfl, hb2⟩
          have HB2 := Lib.hid hb2
          clear hb2
          go_wp2
          go_ret
          exact HF.out.post HE3.out (StAt.below HF.out.x.at_ (HB2.out.alloc HB2.out.size _)) (Turn.of_below (HB2.out.alloc HB2.out.size _)) (fun _ hg => .inl hg)
        · have HE3 := Lib.hid (HE.out.trans (if_neg h3))
          have k3 : ((ee : Int) == 3) = false := by rw [beq_eq_false_iff_ne]; omega
          have k0 : ((ee : Int) != 0) = true := by have := (unpack_err _ _ hu).1; rw [bne_iff_ne]; omega
          clear hu
          go_wp2_with fail
          refine HU.out.mono ?_; rintro e w2 ⟨rfl, hb2⟩
          have HB2 := Lib.hid hb2
          clear hb2
          go_wp2
          go_ret
          exact HF.out.post HE3.out (StAt.below HF.out.x.at_ (HB2.out.alloc HB2.out.size _)) (Turn.of_below (HB2.out.alloc HB2.out.size _)) (fun _ hg => .inl hg)
      | ok m k =>
        rw [hu] at hU
        obtain ⟨hm, hk24, hkl⟩ := unpack_ok s'.inp (by omega) m k hu
        have HUP := Lib.hid hu
        obtain ⟨mid, mto, mkind, mbody, msm⟩ := m
        have hU' : Calls Tryd.prog 15 #[.slice A3 s'.inp.length cap3] wr (fun e w' => e = .returned (.tuple #[.agg #[.int .u32 (mid : Int), .int .u32 (mto : Int), .int .i64 mkind, .string mbody, .bool msm], .int .i64 (k : Int), .int .i64 0]) ∧ Below wr.heap.size wr w') := hU
        have HU := Lib.hid hU'
        have HM := Lib.hid hm
        have HBS := Lib.hid (unpack_body s'.inp _ k hu)
        obtain ⟨G, o, rfl⟩ : ∃ G o, A3 = some ⟨G, o, none⟩ := by
          rcases hB with h | ⟨G, o, h, _⟩
          · rw [h] at hkl; simp at hkl; omega
          · exact ⟨G, o, h⟩
        clear hU hU' hB hu hm
        go_wp2_with fail
        refine HU.out.mono ?_; rintro e w2 ⟨rfl, hb2⟩
        have d0 := cell_below hb2 c0
        have d6 := cell_below hb2 c6
        have HB2 := Lib.hid hb2
        have HF2 := Lib.hid (HF.out.x.below hb2)
        have e0 := (cl_cells HF2.out.at_).2 0
        have hRl2 := HF2.out.at_.ltR
        clear hb2 c0 c2 c3 c6 f0
        obtain ⟨s4, e4, ht4⟩ : ∃ s4 e4, ({ s' with inp := s'.inp.drop k } : Cl).take ⟨mid, mto, mkind, mbody, msm⟩ = (s4, e4) := ⟨_, _, rfl⟩
        have HT4 := Lib.hid ht4
        have HC := Lib.hid (fun (o2 c2 : Nat) (hc2 : c2 = cap3 - k) (hp : o2 = o + k ∨ cap3 - k = 0) (W3 : World) hbq => cfed_c HF.out hcl HB2.out ⟨mid, mto, mkind, mbody, msm⟩ (Nat.le_trans HBS.out (by omega)) k hkl o2 c2 hc2 hp W3 hbq)
        rw [ht4] at HC
        clear ht4
        cases hbg : s'.began with
        | true =>
          rw [hbg] at d6 HC
          have HC' := Lib.hid (fun (o2 c2 : Nat) (hc2 : c2 = cap3 - k) (hp : o2 = o + k ∨ cap3 - k = 0) (W3 : World) hbq => show Calls Tryd.prog 76 #[.pointer (some ⟨R, 0, none⟩), .agg #[.int .u32 (mid : Int), .int .u32 (mto : Int), .int .i64 mkind, .string mbody, .bool msm]] W3 _ from HC.out o2 c2 hc2 hp W3 hbq)
          have d6' : w2.cell? ⟨R, 6, none⟩ = some (.func (.func 76) #[.pointer (some ⟨R, 0, none⟩)] #[]) := d6
          clear HC hbg d6
          by_cases h4 : e4 = 0
          · subst h4
            by_cases hcap : cap3 - k = 0
            · go_wp2
              go_region_with (go_at_call 76; refine (HC'.out o 0 hcap.symm (.inr hcap) _ (by repeat (first | with_reducible exact Below.refl _ _ | with_reducible refine below_drewN ?_ _ | with_reducible refine Below.drew ?_ | with_reducible refine Below.alloc ?_ (by first | (simp; done) | (simp; omega)) _ | with_reducible refine Below.setCell ?_ (by first | (simp; done) | (simp; omega)) _))).mono ?_; rintro ee w3 ⟨V3, rfl, HX3, HT3, HN3⟩)
              all_goals (
                have HFN := Lib.hid (HF.out.next hcl HUP.out HT4.out HX3.out HT3.out HN3.out)
                go_wp2
                go_roundw
                case rel => exact ⟨s4, n, V3, Lib.hid HFN.out.1⟩
                case measure => exact HFN.out.2)
            · have hcx : k ≤ cap3 := by omega
              go_wp2
              go_region_with (go_at_call 76; refine (HC'.out (o + k) (cap3 - k) rfl (.inl rfl) _ (by repeat (first | with_reducible exact Below.refl _ _ | with_reducible refine below_drewN ?_ _ | with_reducible refine Below.drew ?_ | with_reducible refine Below.alloc ?_ (by first | (simp; done) | (simp; omega)) _ | with_reducible refine Below.setCell ?_ (by first | (simp; done) | (simp; omega)) _))).mono ?_; rintro ee w3 ⟨V3, rfl, HX3, HT3, HN3⟩)
              all_goals (
                have HFN := Lib.hid (HF.out.next hcl HUP.out HT4.out HX3.out HT3.out HN3.out)
                go_wp2
                go_roundw
                case rel => exact ⟨s4, n, V3, Lib.hid HFN.out.1⟩
                case measure => exact HFN.out.2)
          · have k4 : ((e4 : Int) != 0) = true := by rw [bne_iff_ne]; omega
            have HN4 := Lib.hid h4
            clear h4
            by_cases hcap : cap3 - k = 0
            · go_wp2
              go_region_with (go_at_call 76; refine (HC'.out o 0 hcap.symm (.inr hcap) _ (by repeat (first | with_reducible exact Below.refl _ _ | with_reducible refine below_drewN ?_ _ | with_reducible refine Below.drew ?_ | with_reducible refine Below.alloc ?_ (by first | (simp; done) | (simp; omega)) _ | with_reducible refine Below.setCell ?_ (by first | (simp; done) | (simp; omega)) _))).mono ?_; rintro ee w3 ⟨V3, rfl, HX3, HT3, HN3⟩)
              all_goals (
                go_wp2
                go_ret
                exact HF.out.halt hcl HUP.out HT4.out HN4.out HX3.out HT3.out HN3.out)
            · have hcx : k ≤ cap3 := by omega
              go_wp2
              go_region_with (go_at_call 76; refine (HC'.out (o + k) (cap3 - k) rfl (.inl rfl) _ (by repeat (first | with_reducible exact Below.refl _ _ | with_reducible refine below_drewN ?_ _ | with_reducible refine Below.drew ?_ | with_reducible refine Below.alloc ?_ (by first | (simp; done) | (simp; omega)) _ | with_reducible refine Below.setCell ?_ (by first | (simp; done) | (simp; omega)) _))).mono ?_; rintro ee w3 ⟨V3, rfl, HX3, HT3, HN3⟩)
              all_goals (
                go_wp2
                go_ret
                exact HF.out.halt hcl HUP.out HT4.out HN4.out HX3.out HT3.out HN3.out)
        | false =>
          rw [hbg] at d6 HC
          have HC' := Lib.hid (fun (o2 c2 : Nat) (hc2 : c2 = cap3 - k) (hp : o2 = o + k ∨ cap3 - k = 0) (W3 : World) hbq => show Calls Tryd.prog 67 #[.pointer (some ⟨R, 0, none⟩), .agg #[.int .u32 (mid : Int), .int .u32 (mto : Int), .int .i64 mkind, .string mbody, .bool msm]] W3 _ from HC.out o2 c2 hc2 hp W3 hbq)
          have d6' : w2.cell? ⟨R, 6, none⟩ = some (.func (.func 67) #[.pointer (some ⟨R, 0, none⟩)] #[]) := d6
          clear HC hbg d6
          by_cases h4 : e4 = 0
          · subst h4
            by_cases hcap : cap3 - k = 0
            · go_wp2
              go_region_with (go_at_call 67; refine (HC'.out o 0 hcap.symm (.inr hcap) _ (by repeat (first | with_reducible exact Below.refl _ _ | with_reducible refine below_drewN ?_ _ | with_reducible refine Below.drew ?_ | with_reducible refine Below.alloc ?_ (by first | (simp; done) | (simp; omega)) _ | with_reducible refine Below.setCell ?_ (by first | (simp; done) | (simp; omega)) _))).mono ?_; rintro ee w3 ⟨V3, rfl, HX3, HT3, HN3⟩)
              all_goals (
                have HFN := Lib.hid (HF.out.next hcl HUP.out HT4.out HX3.out HT3.out HN3.out)
                go_wp2
                go_roundw
                case rel => exact ⟨s4, n, V3, Lib.hid HFN.out.1⟩
                case measure => exact HFN.out.2)
            · have hcx : k ≤ cap3 := by omega
              go_wp2
              go_region_with (go_at_call 67; refine (HC'.out (o + k) (cap3 - k) rfl (.inl rfl) _ (by repeat (first | with_reducible exact Below.refl _ _ | with_reducible refine below_drewN ?_ _ | with_reducible refine Below.drew ?_ | with_reducible refine Below.alloc ?_ (by first | (simp; done) | (simp; omega)) _ | with_reducible refine Below.setCell ?_ (by first | (simp; done) | (simp; omega)) _))).mono ?_; rintro ee w3 ⟨V3, rfl, HX3, HT3, HN3⟩)
              all_goals (
                have HFN := Lib.hid (HF.out.next hcl HUP.out HT4.out HX3.out HT3.out HN3.out)
                go_wp2
                go_roundw
                case rel => exact ⟨s4, n, V3, Lib.hid HFN.out.1⟩
                case measure => exact HFN.out.2)
          · have k4 : ((e4 : Int) != 0) = true := by rw [bne_iff_ne]; omega
            have HN4 := Lib.hid h4
            clear h4
            by_cases hcap : cap3 - k = 0
            · go_wp2
              go_region_with (go_at_call 67; refine (HC'.out o 0 hcap.symm (.inr hcap) _ (by repeat (first | with_reducible exact Below.refl _ _ | with_reducible refine below_drewN ?_ _ | with_reducible refine Below.drew ?_ | with_reducible refine Below.alloc ?_ (by first | (simp; done) | (simp; omega)) _ | with_reducible refine Below.setCell ?_ (by first | (simp; done) | (simp; omega)) _))).mono ?_; rintro ee w3 ⟨V3, rfl, HX3, HT3, HN3⟩)
              all_goals (
                go_wp2
                go_ret
                exact HF.out.halt hcl HUP.out HT4.out HN4.out HX3.out HT3.out HN3.out)
            · have hcx : k ≤ cap3 := by omega
              go_wp2
              go_region_with (go_at_call 67; refine (HC'.out (o + k) (cap3 - k) rfl (.inl rfl) _ (by repeat (first | with_reducible exact Below.refl _ _ | with_reducible refine below_drewN ?_ _ | with_reducible refine Below.drew ?_ | with_reducible refine Below.alloc ?_ (by first | (simp; done) | (simp; omega)) _ | with_reducible refine Below.setCell ?_ (by first | (simp; done) | (simp; omega)) _))).mono ?_; rintro ee w3 ⟨V3, rfl, HX3, HT3, HN3⟩)
              all_goals (
                go_wp2
                go_ret
                exact HF.out.halt hcl HUP.out HT4.out HN4.out HX3.out HT3.out HN3.out)
end Go.Proofs.YtkpickojeghppaaDoor
namespace Go.Proofs.YtkpickojeghppaaDoor
open Go.RowKit
theorem clone_c (A : Option Addr) (cap : Nat) (p : List UInt8) (hl : p.length ≤ 1099511627776) (w : World) (h : BytesIn w A p) :
    Calls Tryd.prog 68 #[.slice A p.length cap] w fun e w' => ∃ v', e = .returned v' ∧ Src Tryd.prog 1 28 v' p.length (bytesV p) w' ∧ Below w.heap.size w w' := by
  have nilCase : ∀ c, p = [] → Calls Tryd.prog 68 #[.slice none p.length c] w fun e w' => ∃ v', e = .returned v' ∧ Src Tryd.prog 1 28 v' p.length (bytesV p) w' ∧ Below w.heap.size w w' := fun c hp => by
    subst hp
    refine (Tryd.bytes_Clone_nil 0 c w).mono ?_
    rintro e w' ⟨he, rfl⟩
    exact ⟨_, he, src_bslab (bslab_nil _), Below.refl _ _⟩
  have at_ : ∀ a : Addr, (∀ i, i < p.length → w.cell? (a.add i) = some (.int .u8 ((p.map (fun c => (c.toNat : Int))).getD i 0))) → Calls Tryd.prog 68 #[.slice (some a) p.length cap] w fun e w' => ∃ v', e = .returned v' ∧ Src Tryd.prog 1 28 v' p.length (bytesV p) w' ∧ Below w.heap.size w w' := fun a hc => by
    refine (Tryd.bytes_Clone_at a p.length cap (p.map (fun c => (c.toNat : Int))) w (by simp) (by omega) hc).mono ?_
    rintro e w' ⟨v', he, hown, _, hb⟩
    refine ⟨v', he, ?_, hb⟩
    have hx : (p.map (fun c => (c.toNat : Int))).map (Value.int .u8) = bytesV p := by simp [bytesV]
    rw [hx] at hown
    rcases hown.2 with ⟨hv, hz⟩ | ⟨g, c, cur, hv, _⟩
    · have hp : p = [] := by simpa [bytesV] using hz
      subst hp
      rw [hv]
      exact src_bslab (bslab_nil _)
    · have hcs := World.ownsRow.cells hown (g := g) (by rw [hv]; rfl)
      rw [hv]
      exact Src.ofSlice w' bytTy.slice _ _ _ _ (by simp [bytesV]) hcs (fun u hu => by
        simp only [bytesV, List.mem_map] at hu
        obtain ⟨c, _, rfl⟩ := hu
        rfl)
  rcases h with h | ⟨G, o, rfl, hr⟩
  · cases A with
    | none => exact nilCase cap h
    | some a => exact at_ a (fun i hi => by rw [h] at hi; simp at hi)
  · exact at_ _ (fun i hi => by
      have := hr i (.int .u8 (p[i].toNat : Int)) (by simp [bytesV, hi])
      rw [Addr.add_mid]
      rw [this]
      simp [List.getD, hi])
def Cl.failed (s : Cl) (e : Nat) : Cl := if e = 0 then s else { s with closed := true, why := e }
def Cl.feed (s : Cl) (p : List UInt8) : Cl := if s.closed then s else (Cl.feedE ((s.inp ++ p).length + 1) { s with inp := s.inp ++ p }).1.failed (Cl.feedE ((s.inp ++ p).length + 1) { s with inp := s.inp ++ p }).2
set_option maxRecDepth 20000 in
set_option maxHeartbeats 4000000 in
theorem clfeedStop_c (R : Nat) (V : CV) (s : Cl) (pv : Value) (w : World) (hst : s.closed = true) (h : CK.X w R V s) :
    Calls Tryd.prog 56 #[.pointer (some ⟨R, 0, none⟩), pv] w (CK.Post R V s w s (.int .i64 0)) := by
  have c2 := (cl_cells h.at_).1.2.2.1
  have H := Lib.hid h
  clear h
  rw [hst] at c2
  clear hst
  go_enter Tryd.func56, Tryd.ntmps56
  go_wp2
  go_ret
  exact EK.post_same H.out.at_ _
set_option maxRecDepth 20000 in
set_option maxHeartbeats 4000000 in
theorem clFeed_c (R : Nat) (V : CV) (s : Cl) (hok : s.Ok) (A : Option Addr) (cap : Nat) (p : List UInt8) (w : World) (hp : BytesIn w A p) (hroom : s.came.length + (s.inp.length + p.length) ≤ 1099511627776) (h : CK.X w R V s) :
    Calls Tryd.prog 36 #[.pointer (some ⟨R, 0, none⟩), .slice A p.length cap] w (CK.Post R V s w (s.feed p) (.tuple #[])) := by
  have key : ∀ (s2 : Cl) (e : Nat), (∀ (pv : Value) (W : World), Below w.heap.size w W → Src Tryd.prog 1 28 pv p.length (bytesV p) W → Calls Tryd.prog 56 #[.pointer (some ⟨R, 0, none⟩), pv] W (CK.Post R V s W s2 (.int .i64 (e : Int)))) → Calls Tryd.prog 36 #[.pointer (some ⟨R, 0, none⟩), .slice A p.length cap] w (CK.Post R V s w (s2.failed e) (.tuple #[])) := by
    intro s2 e hfe
    have HFE := Lib.hid hfe
    have HCL := Lib.hid (fun (n : Nat) => clone_c A cap p (by omega) (w.drewN n) (by rcases hp with hp | ⟨G, o, h1, h2⟩; exact .inl hp; exact .inr ⟨G, o, h1, fun j v hj => cell_below (below_drewN' w n) (h2 j v hj)⟩))
    have hRl := h.at_.ltR
    clear hfe h hp hok hroom
    have hE : e = 0 ∨ ((e : Int) != 0) = true := by
      rcases Nat.eq_zero_or_pos e with h | h
      · exact .inl h
      · right; rw [bne_iff_ne]; omega
    generalize hpn : p.length = pn at *
    have HPN := Lib.hid hpn
    clear hpn
    rcases hE with hE | hE
    · subst hE
      go_enter Tryd.func36, Tryd.ntmps36
      go_wp2
      go_region_with (first
        | (go_at_call 68; refine (HCL.out _).mono ?_; rintro ee w1 ⟨v1, rfl, hs1, hb1⟩; have HS1 := Lib.hid hs1; have HB1 := Lib.hid ((below_drewN' w _).trans hb1); clear hs1 hb1)
        | (go_at_call 56; refine (HFE.out _ _ HB1.out HS1.out).mono ?_; rintro ee w2 ⟨V2, rfl, h2, ht2, hn2⟩; have HF := Lib.hid (And.intro h2 (And.intro ((Turn.of_below HB1.out).trans (ht2.weak (fun g hg => .inl hg)) : Turn (CK.F R V s) w w2) (show ∀ g, CK.F R V2 s2 g → CK.F R V s g ∨ w.heap.size ≤ g from fun g hg => (hn2 g hg).imp (fun e => e) (fun e => Nat.le_trans HB1.out.size e)))); clear h2 ht2 hn2))
      all_goals (
        go_wp2
        go_end0
        exact ⟨V2, rfl, HF.out.1, HF.out.2.1, HF.out.2.2⟩)
    · have HNE := Lib.hid (show s2.failed e = { s2 with closed := true, why := e } from if_neg (fun h => by rw [h] at hE; exact absurd hE (by decide)))
      go_enter Tryd.func36, Tryd.ntmps36
      go_wp2
      go_region_with (first
        | (go_at_call 68; refine (HCL.out _).mono ?_; rintro ee w1 ⟨v1, rfl, hs1, hb1⟩; have HS1 := Lib.hid hs1; have HB1 := Lib.hid ((below_drewN' w _).trans hb1); clear hs1 hb1)
        | (go_at_call 56; refine (HFE.out _ _ HB1.out HS1.out).mono ?_; rintro ee w2 ⟨V2, rfl, h2, ht2, hn2⟩; have d2 := (cl_cells h2).1.2.2.1; have d4 := (cl_cells h2).1.2.2.2.2.1; have e2 := (cl_cells h2).2 2; have e4 := (cl_cells h2).2 4; have HF := Lib.hid (And.intro h2 (And.intro ((Turn.of_below HB1.out).trans (ht2.weak (fun g hg => .inl hg)) : Turn (CK.F R V s) w w2) (show ∀ g, CK.F R V2 s2 g → CK.F R V s g ∨ w.heap.size ≤ g from fun g hg => (hn2 g hg).imp (fun e => e) (fun e => Nat.le_trans HB1.out.size e)))); clear h2 ht2 hn2))
      all_goals (
        go_wp2
        go_end0
        rw [HNE.out]
        have hf := cl_put HF.out.1 (s2 := { s2 with closed := true, why := e }) (((Turn.refl (fun g => g = R) w2).set (g := R) (.inl rfl) 2 (.bool false)).set (g := R) (.inl rfl) 4 (.int .i64 (e : Int))) (heap_setCell_same _ R 4 _ _ (.int .i64 (e : Int)) (heap_setCell_same _ R 2 _ _ (.bool false) HF.out.1.blk)) (fun a => by cases a) rfl rfl rfl
        exact EK.seq HF.out.2.1 HF.out.2.2 ⟨V2, rfl, hf.1, hf.2.1, hf.2.2⟩)
  by_cases hst : s.closed = true
  · have := key s 0 (fun pv W hb _ => clfeedStop_c R V s pv W hst (h.below hb))
    have e : s.feed p = s.failed 0 := by unfold Cl.feed; rw [if_pos hst]; rfl
    rw [e]; exact this
  · have hcl : s.closed = false := by simpa using hst
    have e : s.feed p = (Cl.feedE ((s.inp ++ p).length + 1) { s with inp := s.inp ++ p }).1.failed (Cl.feedE ((s.inp ++ p).length + 1) { s with inp := s.inp ++ p }).2 := if_neg (by rw [hcl]; decide)
    rw [e]
    exact key _ _ (fun pv W hb hs => clfeed_c R V s hok pv p W hs hroom hcl (h.below hb))
end Go.Proofs.YtkpickojeghppaaDoor
