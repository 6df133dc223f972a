/- The walk of Reply (the client's). Conditions: none. -/
import Derived.Test.YtkpickojeghppaaDoorWask
namespace Go.Proofs.YtkpickojeghppaaDoor
open Go.RowKit
theorem EK.post_then {V S : Type} {K : EK V S} {R : Nat} {v v2 : V} {s s2 : S} {w w1 w' : World} (h : K.At w1 R v2 s2 ∧ Turn (K.F R v s) w w1 ∧ ∀ g, K.F R v2 s2 g → K.F R v s g ∨ w.heap.size ≤ g) (hb : Below w1.heap.size w1 w') (r : Value) : K.Post R v s w s2 r (.returned r) w' :=
  ⟨v2, rfl, StAt.below h.1 hb, h.2.1.trans (Turn.of_below hb), h.2.2⟩
def Cl.reply (s : Cl) : Cl × Value := match s.came with
  | [] => (s, .tuple #[.int .u32 0, .string ⟨#[]⟩, .bool false])
  | (i, b) :: r => ({ s with came := r }, .tuple #[.int .u32 (i : Int), .string b, .bool true])
/-- the first reply is no more -/
theorem cl_tail {w : World} {R G o o2 cap : Nat} {vi vo vq : Value} {s : Cl} {x : Nat × ByteArray} {r : List (Nat × ByteArray)} (h : CK.At w R ⟨vi, vo, vq, .slice (some ⟨G, o, none⟩) s.came.length cap⟩ s) (hx : s.came = x :: r) (c3 : Nat) (hc3 : c3 = cap - 1) (hp : o2 = o + 2 ∨ cap - 1 = 0) :
    CK.At (w.setCell ⟨R, 9, none⟩ (.slice (some ⟨G, o2, none⟩) (s.came.length - 1) c3)) R ⟨vi, vo, vq, .slice (some ⟨G, o2, none⟩) (s.came.length - 1) c3⟩ { s with came := r } ∧
    Turn (CK.F R ⟨vi, vo, vq, .slice (some ⟨G, o, none⟩) s.came.length cap⟩ s) w (w.setCell ⟨R, 9, none⟩ (.slice (some ⟨G, o2, none⟩) (s.came.length - 1) c3)) ∧
    ∀ g, CK.F R ⟨vi, vo, vq, .slice (some ⟨G, o2, none⟩) (s.came.length - 1) c3⟩ { s with came := r } g → CK.F R ⟨vi, vo, vq, .slice (some ⟨G, o, none⟩) s.came.length cap⟩ s g ∨ w.heap.size ≤ g := by
  subst hc3
  have hG : G < w.heap.size := h.lt _ (.tail _ (.tail _ (.tail _ (.head _)))) G rfl
  have hne : G ≠ R := fun e => h.nR _ (.tail _ (.tail _ (.tail _ (.head _)))) (by rw [← e]; rfl)
  have hs := Slab.tail (cl_came h) 1 (by rw [hx]; simp) (o2 := o2) (by simpa using hp)
  rw [hx] at hs
  have hs2 : Slab w 2 (.slice (some ⟨G, o2, none⟩) (s.came.length - 1) (cap - 1)) r.length (cameV r) := by rw [hx]; exact hs
  exact EK.repl (K := CK) (v2 := ⟨vi, vo, vq, .slice (some ⟨G, o2, none⟩) (s.came.length - 1) (cap - 1)⟩) (s2 := { s with came := r }) [⟨1, vi, s.inp.length, bytesV s.inp, s.closed = false⟩, ⟨1, vo, s.out.length, bytesV s.out, True⟩, ⟨1, vq, s.asked.length, numsV s.asked, True⟩] []
    ⟨2, .slice (some ⟨G, o, none⟩) s.came.length cap, s.came.length, cameV s.came, True⟩ ⟨2, .slice (some ⟨G, o2, none⟩) (s.came.length - 1) (cap - 1), r.length, cameV r, True⟩ rfl rfl h ((Turn.refl (fun g => g = R ∨ _) w).set (.inl (.inl rfl)) 9 _) (heap_setCell_same _ R 9 _ _ _ h.blk)
    (fun _ => Slab.same hs2 (fun g hg => heap_setCell_other _ _ _ _ (by rw [← Option.some.inj hg]; exact hne))) (fun g hg => by rw [← Option.some.inj hg]; simpa using hG) (fun g hg => .inl hg)
set_option maxRecDepth 20000 in
set_option maxHeartbeats 4000000 in
theorem reply_c (R : Nat) (V : CV) (s : Cl) (w : World) (h : CK.At w R V s) :
    Calls Tryd.prog 42 #[.pointer (some ⟨R, 0, none⟩)] w (CK.Post R V s w s.reply.1 s.reply.2) := by
  obtain ⟨⟨_, _, _, _, _, _, _, _, _, c9, _, _⟩, hf⟩ := cl_cells h
  have f9 := hf 9
  have hRl := h.ltR
  clear hf
  obtain ⟨A, cap, hvr, hnc, hcm, hform⟩ := Slab.form (cl_came h)
  obtain ⟨vi, vo, vq, vr⟩ := V
  simp only at hvr c9
  subst hvr
  obtain ⟨l, hl⟩ : ∃ l, s.came = l := ⟨_, rfl⟩
  cases l with
  | nil =>
    have HT := Lib.hid (show s.reply = (s, .tuple #[.int .u32 0, .string ⟨#[]⟩, .bool false]) by unfold Cl.reply; rw [hl])
    have H := Lib.hid h
    have hz : s.came.length = 0 := by rw [hl]; rfl
    have c9q := c9
    rw [hz] at c9q
    have c9' : w.cell? ⟨R, 9, none⟩ = some (.slice A 0 cap) := c9q
    have HL := Lib.hid hl
    clear h hl hform c9 c9q hz
    go_enter Tryd.func42, Tryd.ntmps42
    go_wp2
    refine bodyPost_ret (results_tmp3 rfl _ _ _) rfl ?_
    rw [HT.out]
    exact EK.post_same H.out _
  | cons x r =>
    obtain ⟨i, b⟩ := x
    have HT := Lib.hid (show s.reply = ({ s with came := r }, .tuple #[.int .u32 (i : Int), .string b, .bool true]) by unfold Cl.reply; rw [hl])
    have hlen : s.came.length = r.length + 1 := by rw [hl]; rfl
    obtain ⟨G, o, rfl, hG⟩ : ∃ G o, A = some ⟨G, o, none⟩ ∧ w.rangeAt G o (cameV s.came) := by
      rcases hform with ⟨_, h0, _⟩ | ⟨g, off, h1, _, _, h2, _⟩
      · omega
      · exact ⟨g, off, h1, h2⟩
    have d0 : w.cell? ⟨G, o, none⟩ = some (.int .u32 (i : Int)) := hG 0 _ (by rw [hl]; rfl)
    have d1 : w.cell? ⟨G, o + 1, none⟩ = some (.string b) := hG 1 _ (by rw [hl]; rfl)
    have hn0 : ((s.came.length : Int) == 0) = false := by rw [beq_eq_false_iff_ne]; omega
    have hn1 : (0 : Int) < (s.came.length : Int) := by omega
    have HC := Lib.hid (fun (o2 c3 : Nat) (hc3 : c3 = cap - 1) (hp : o2 = o + 2 ∨ cap - 1 = 0) => cl_tail (o2 := o2) h hl c3 hc3 hp)
    have HL := Lib.hid hlen
    clear h hl hform hG
    have hnp : 1 ≤ s.came.length := by omega
    clear hlen
    generalize hcl : s.came.length = n at *
    clear hcl
    by_cases hc3 : cap - 1 = 0
    · go_enter Tryd.func42, Tryd.ntmps42
      go_wp2
      go_quiet (fail)
      go_wp2
      refine bodyPost_ret (results_tmp3 rfl _ _ _) rfl ?_
      rw [HT.out]
      exact EK.post_then (HC.out o 0 hc3.symm (.inr hc3)) (below_drewN ((Below.refl _ _).alloc (Nat.le_refl _) _) nq) _
    · have hcx : 1 ≤ cap := by omega
      go_enter Tryd.func42, Tryd.ntmps42
      go_wp2
      go_quiet (fail)
      go_wp2
      refine bodyPost_ret (results_tmp3 rfl _ _ _) rfl ?_
      rw [HT.out]
      exact EK.post_then (HC.out (o + 2) (cap - 1) rfl (.inl rfl)) (below_drewN ((Below.refl _ _).alloc (Nat.le_refl _) _) nq) _
end Go.Proofs.YtkpickojeghppaaDoor
