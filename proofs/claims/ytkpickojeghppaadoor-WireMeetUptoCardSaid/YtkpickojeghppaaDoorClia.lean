/- A client in memory; the walks of its methods. Conditions: what the laws name. -/
import Derived.Test.YtkpickojeghppaaDoorBase
import Derived.Test.YtkpickojeghppaaDoorFeed
import Derived.Deep.DeepMust
import Derived.Deep.RegionLaw
import Derived.Lib.QuietBelow
namespace Go.Proofs.YtkpickojeghppaaDoor
open Go.RowKit
/-- a struct beside the variables -/
structure EK.X {V S : Type} (K : EK V S) (w : World) (R : Nat) (v : V) (s : S) : Prop where
  at_ : K.At w R v s
  tabs : WTabs w
  own : ∀ g, K.F R v s g → 5 ≤ g
theorem EK.X.of {V S : Type} {K : EK V S} {w w' : World} {R : Nat} {v v2 : V} {s s2 : S} (h : K.X w R v s) (hp : K.At w' R v2 s2) (ht : Turn (K.F R v s) w w') (hn : ∀ g, K.F R v2 s2 g → K.F R v s g ∨ w.heap.size ≤ g) : K.X w' R v2 s2 :=
  ⟨hp, h.tabs.turn ht h.own, fun g hg => (hn g hg).elim (h.own g) (fun e => Nat.le_trans h.tabs.size e)⟩
theorem EK.X.below {V S : Type} {K : EK V S} {w w' : World} {R : Nat} {v : V} {s : S} (h : K.X w R v s) (hb : Below w.heap.size w w') : K.X w' R v s :=
  h.of (StAt.below h.at_ hb) (Turn.of_below hb) (fun _ hg => .inl hg)
/-- the slices of a client -/
structure CV where
  i : Value
  o : Value
  q : Value
  r : Value
def takeCV (R : Nat) (b : Bool) : Value := .func (.func (if b then 76 else 67)) #[.pointer (some ⟨R, 0, none⟩)] #[]
def cameV (l : List (Nat × ByteArray)) : List Value := l.flatMap fun x => [.int .u32 (x.1 : Int), .string x.2]
def clCells (R : Nat) (V : CV) (s : Cl) : Array Value :=
  #[V.i, V.o, .bool (!s.closed), .bool false, .int .i64 (s.why : Int), .bool s.sums, takeCV R s.began, .int .u32 (s.id : Int), V.q, V.r, .int .u32 (s.bye : Int), .bool s.ending]
def clParts (V : CV) (s : Cl) : List Part :=
  [⟨1, V.i, s.inp.length, bytesV s.inp, s.closed = false⟩, ⟨1, V.o, s.out.length, bytesV s.out, True⟩, ⟨1, V.q, s.asked.length, numsV s.asked, True⟩, ⟨2, V.r, s.came.length, cameV s.came, True⟩]
def CK : EK CV Cl := ⟨118, clCells, clParts⟩
section
variable {w : World} {R : Nat} {V : CV} {s : Cl}
theorem cl_cells (h : CK.At w R V s) :
    (w.cell? ⟨R, 0, none⟩ = some V.i ∧ w.cell? ⟨R, 1, none⟩ = some V.o ∧ w.cell? ⟨R, 2, none⟩ = some (.bool (!s.closed)) ∧ w.cell? ⟨R, 3, none⟩ = some (.bool false) ∧ w.cell? ⟨R, 4, none⟩ = some (.int .i64 (s.why : Int)) ∧ w.cell? ⟨R, 5, none⟩ = some (.bool s.sums) ∧ w.cell? ⟨R, 6, none⟩ = some (takeCV R s.began) ∧ w.cell? ⟨R, 7, none⟩ = some (.int .u32 (s.id : Int)) ∧ w.cell? ⟨R, 8, none⟩ = some V.q ∧ w.cell? ⟨R, 9, none⟩ = some V.r ∧ w.cell? ⟨R, 10, none⟩ = some (.int .u32 (s.bye : Int)) ∧ w.cell? ⟨R, 11, none⟩ = some (.bool s.ending)) ∧ ∀ i : Nat, w.frozen? ⟨R, i, none⟩ = false :=
  ⟨⟨cell_of_row _ _ _ _ _ _ h.blk, cell_of_row _ _ _ _ _ _ h.blk, cell_of_row _ _ _ _ _ _ h.blk, cell_of_row _ _ _ _ _ _ h.blk, cell_of_row _ _ _ _ _ _ h.blk, cell_of_row _ _ _ _ _ _ h.blk, cell_of_row _ _ _ _ _ _ h.blk, cell_of_row _ _ _ _ _ _ h.blk, cell_of_row _ _ _ _ _ _ h.blk, cell_of_row _ _ _ _ _ _ h.blk, cell_of_row _ _ _ _ _ _ h.blk, cell_of_row _ _ _ _ _ _ h.blk⟩, fun _ => frozen_of_row _ _ _ _ _ h.blk⟩
theorem cl_in (h : CK.At w R V s) (hc : s.closed = false) : BSlab w V.i s.inp := h.slab _ (.head _) hc
theorem cl_out (h : CK.At w R V s) : BSlab w V.o s.out := h.slab _ (.tail _ (.head _)) trivial
theorem cl_asked (h : CK.At w R V s) : Slab w 1 V.q s.asked.length (numsV s.asked) := h.slab _ (.tail _ (.tail _ (.head _))) trivial
theorem cl_came (h : CK.At w R V s) : Slab w 2 V.r s.came.length (cameV s.came) := h.slab _ (.tail _ (.tail _ (.tail _ (.head _)))) trivial
/-- only cells beside the slices have turned -/
theorem cl_put (h : CK.At w R V s) {w' : World} {s2 : Cl} (ht : Turn (fun g => g = R) w w') (hb : w'.heap[R]? = some (.cells (clCells R V s2) 118 (0, 0)))
    (hi : s2.closed = false → s.closed = false ∧ s2.inp = s.inp) (ho : s2.out = s.out) (hq : s2.asked = s.asked) (hr : s2.came = s.came) :
    CK.At w' R V s2 ∧ Turn (CK.F R V s) w w' ∧ ∀ g, CK.F R V s2 g → CK.F R V s g ∨ w.heap.size ≤ g := by
  refine EK.put h ht hb rfl (fun p hp hon => ?_)
  simp only [CK, clParts, List.mem_cons, List.not_mem_nil, or_false] at hp
  rcases hp with rfl | rfl | rfl | rfl
  · obtain ⟨a, b⟩ := hi hon
    exact ⟨_, .head _, a, rfl, rfl, by rw [b], by rw [b]⟩
  · exact ⟨_, .tail _ (.head _), trivial, rfl, rfl, by rw [ho], by rw [ho]⟩
  · exact ⟨_, .tail _ (.tail _ (.head _)), trivial, rfl, rfl, by rw [hq], by rw [hq]⟩
  · exact ⟨_, .tail _ (.tail _ (.tail _ (.head _))), trivial, rfl, rfl, by rw [hr], by rw [hr]⟩
theorem cl_F {R : Nat} {V : CV} {s : Cl} (s2 : Cl) {g : Nat} (h : CK.F R V s g) : CK.F R V s2 g := stF_map R (ps := clParts V s2) (qs := clParts V s) rfl g h
/-- a message has gone out -/
theorem cl_sent (h : CK.At w R V s) {m : WMsg} {e : Ending} {w' : World} (hp : SendPost R (clCells R V s) 118 V.o s.out (m.summed s.sums) w e w') :
    CK.Post R V s w (s.send m) (.int .i64 (packE (m.summed s.sums) : Int)) e w' := by
  obtain ⟨vo', he, hs, hb, ht, hn⟩ := hp
  obtain ⟨a, b, c⟩ := EK.repl (K := CK) (v2 := { V with o := vo' }) (s2 := s.send m) [⟨1, V.i, s.inp.length, bytesV s.inp, s.closed = false⟩] [⟨1, V.q, s.asked.length, numsV s.asked, True⟩, ⟨2, V.r, s.came.length, cameV s.came, True⟩]
    ⟨1, V.o, s.out.length, bytesV s.out, True⟩ ⟨1, vo', (s.send m).out.length, bytesV (s.send m).out, True⟩ rfl rfl h ht hb (fun _ => hs) (fun g hg => Slab.lt hs hg) hn
  exact ⟨{ V with o := vo' }, he, a, b, c⟩
end
def Cl.take (s : Cl) (m : WMsg) : Cl × Nat :=
  if s.began = false then
    (if m.kind ≠ 2 ∨ m.to ≠ 1 then (s, 284) else ({ s with began := true }, 0))
  else if m.kind = 4 then (match s.asked with
    | [] => (s, 284)
    | x :: r => if m.to = x then ({ s with came := s.came ++ [(m.to, m.body)], asked := r }, 0) else (s, 284))
  else if m.kind = 5 then (if s.ending ∧ m.to = s.bye ∧ s.asked = [] then ({ s with closed := true }, 0) else (s, 284))
  else if m.kind = 6 then (s, match Lib.atoiAll m.body.data.toList with
    | .ok n => if 1 ≤ n ∧ n ≤ 999 ∧ Lib.itoa n = m.body.data.toList then n.toNat else 284
    | _ => 284)
  else (s, 284)
set_option maxRecDepth 20000 in
set_option maxHeartbeats 4000000 in
theorem welcome_c (R : Nat) (V : CV) (s : Cl) (hb : s.began = false) (hc : s.closed = false) (m : WMsg) (w : World) (h : CK.At w R V s) :
    Calls Tryd.prog 67 #[.pointer (some ⟨R, 0, none⟩), .agg (msgV m).toArray] w (CK.Post R V s w (s.take m).1 (.int .i64 ((s.take m).2 : Int))) := by
  obtain ⟨id, to, kind, body, sm⟩ := m
  show Calls Tryd.prog 67 #[.pointer (some ⟨R, 0, none⟩), .agg #[.int .u32 (id : Int), .int .u32 (to : Int), .int .i64 kind, .string body, .bool sm]] w _
  have hRl := h.ltR
  have hb0 : Below w.heap.size w (w.alloc (.cells #[.int .u32 (id : Int), .int .u32 (to : Int), .int .i64 kind, .string body, .bool sm] 27)) := (Below.refl _ _).alloc (Nat.le_refl _) _
  have HD := Lib.hid (fun (n : Nat) => And.intro (StAt.below h (below_drewN hb0 n) : CK.At _ R V s) (below_drewN hb0 n))
  have HX := Lib.hid (heap_alloc_new w (.cells #[.int .u32 (id : Int), .int .u32 (to : Int), .int .i64 kind, .string body, .bool sm] 27))
  have g6 : w.cell? ⟨R, 6, none⟩ = some (takeCV R s.began) := (cl_cells h).1.2.2.2.2.2.2.1
  have e6 := (cl_cells h).2 6
  by_cases hk : kind = 2
  · subst hk
    have ht0 : (w.alloc (.cells #[.int .u32 (id : Int), .int .u32 (to : Int), .int .i64 2, .string body, .bool sm] 27)).cell? ⟨w.heap.size, 1, none⟩ = some (.int .u32 (to : Int)) := cell_of_row _ _ 1 _ _ _ (heap_alloc_new w _)
    by_cases ht1 : to = 1
    · subst ht1
      have HT := Lib.hid (show s.take ⟨id, 1, 2, body, sm⟩ = ({ s with began := true }, 0) by unfold Cl.take; rw [if_pos hb]; rfl)
      have HF := Lib.hid (fun (n : Nat) => show CK.Post R V s w { s with began := true } (.int .i64 0) (.returned (.int .i64 0)) (((w.setCell ⟨R, 6, none⟩ (takeCV R true)).alloc (.cells #[.int .u32 (id : Int), .int .u32 ((1 : Nat) : Int), .int .i64 2, .string body, .bool sm] 27)).drewN n) from by
        obtain ⟨a, b, c⟩ := cl_put h (s2 := { s with began := true }) ((Turn.refl (fun g => g = R) w).set (g := R) (.inl rfl) 6 (takeCV R true)) (heap_setCell_same _ R 6 _ _ (takeCV R true) h.blk) (fun _ => ⟨hc, rfl⟩) rfl rfl rfl
        have hbn : Below (w.setCell ⟨R, 6, none⟩ (takeCV R true)).heap.size (w.setCell ⟨R, 6, none⟩ (takeCV R true)) (((w.setCell ⟨R, 6, none⟩ (takeCV R true)).alloc (.cells #[.int .u32 (id : Int), .int .u32 ((1 : Nat) : Int), .int .i64 2, .string body, .bool sm] 27)).drewN n) := below_drewN ((Below.refl _ _).alloc (Nat.le_refl _) _) n
        exact ⟨V, rfl, StAt.below a hbn, b.trans (Turn.of_below hbn), c⟩)
      clear h hb hc hb0
      go_enter Tryd.func67, Tryd.ntmps67
      go_wp2
      go_ret
      rw [HT.out]
      exact HF.out 0
    · have HT := Lib.hid (show s.take ⟨id, to, 2, body, sm⟩ = (s, 284) by unfold Cl.take; rw [if_pos hb, if_pos (.inr ht1)])
      have ht2 : ((to : Int) != 1) = true := by rw [bne_iff_ne]; omega
      clear h hb hc hb0 g6 e6 ht1
      go_enter Tryd.func67, Tryd.ntmps67
      go_wp2
      go_ret
      rw [HT.out]
      exact ⟨V, rfl, (HD.out 0).1, Turn.of_below (HD.out 0).2, fun g hg => .inl hg⟩
  · have HT := Lib.hid (show s.take ⟨id, to, kind, body, sm⟩ = (s, 284) by unfold Cl.take; rw [if_pos hb, if_pos (.inl hk)])
    have hkb : (kind != 2) = true := by rw [bne_iff_ne]; exact hk
    clear h hb hc hb0 g6 e6
    go_enter Tryd.func67, Tryd.ntmps67
    go_wp2
    go_ret
    rw [HT.out]
    exact ⟨V, rfl, (HD.out 0).1, Turn.of_below (HD.out 0).2, fun g hg => .inl hg⟩
/-- a message of so many bytes may go out -/
theorem fits_c (R : Nat) (V : CV) (s : Cl) (body : ByteArray) (hbs : body.size ≤ 9223372036854770000) (w : World) (h : CK.At w R V s) :
    Calls Tryd.prog 71 #[.pointer (some ⟨R, 0, none⟩), .string body] w fun e w' => e = .returned (.bool (decide (24 + body.size + (if s.sums then 4 else 0) ≤ 131072))) ∧ w = w' := by
  have g5 : w.cell? ⟨R, 5, none⟩ = some (.bool s.sums) := (cl_cells h).1.2.2.2.2.2.1
  clear h
  cases hs : s.sums with
  | true =>
    rw [hs] at g5
    by_cases hle : 24 + body.size + 4 ≤ 131072
    · skip
      go_enter Tryd.func71, Tryd.ntmps71
      go_wp2
      go_ret
      exact ⟨ret_bool (by simp; omega), rfl⟩
    · skip
      go_enter Tryd.func71, Tryd.ntmps71
      go_wp2
      go_ret
      exact ⟨ret_bool (by simp; omega), rfl⟩
  | false =>
    rw [hs] at g5
    by_cases hle : 24 + body.size ≤ 131072
    · skip
      go_enter Tryd.func71, Tryd.ntmps71
      go_wp2
      go_ret
      exact ⟨ret_bool (by simp; omega), rfl⟩
    · skip
      go_enter Tryd.func71, Tryd.ntmps71
      go_wp2
      go_ret
      exact ⟨ret_bool (by simp; omega), rfl⟩
set_option maxRecDepth 20000 in
set_option maxHeartbeats 4000000 in
theorem newClient_c (sums : Bool) (w : World) : Calls Tryd.prog 34 #[.bool sums] w fun e w' => ∃ V, e = .returned (.pointer (some ⟨w.heap.size, 0, none⟩)) ∧ CK.At w' w.heap.size V (cl0 sums) ∧ Below w.heap.size w w' ∧ ∀ g, CK.F w.heap.size V (cl0 sums) g → w.heap.size ≤ g := by
  have hAt : ∀ W, Below w.heap.size w W → W.heap[w.heap.size]? = some (.cells (clCells w.heap.size ⟨.slice none 0 0, .slice none 0 0, .slice none 0 0, .slice none 0 0⟩ { inp := [], out := [], closed := false, why := 0, sums := sums, began := false, ending := false, bye := 0, id := 2, asked := [], came := [] }) 118 (0, 0)) → CK.At W w.heap.size ⟨.slice none 0 0, .slice none 0 0, .slice none 0 0, .slice none 0 0⟩ { inp := [], out := [], closed := false, why := 0, sums := sums, began := false, ending := false, bye := 0, id := 2, asked := [], came := [] } := fun W hb hx => by
    refine ⟨hx, fun p hp _ => ?_, fun p hp => ?_, ?_, fun p hp g hg => ?_⟩
    · simp only [CK, clParts, List.mem_cons, List.not_mem_nil, or_false] at hp
      rcases hp with rfl | rfl | rfl | rfl <;> exact slab_nil _ _
    · simp only [CK, clParts, List.mem_cons, List.not_mem_nil, or_false] at hp
      rcases hp with rfl | rfl | rfl | rfl <;> (intro e; cases e)
    · simp [CK, clParts, apart, Value.ownBlock]
    · simp only [CK, clParts, List.mem_cons, List.not_mem_nil, or_false] at hp
      rcases hp with rfl | rfl | rfl | rfl <;> cases hg
  have HA := Lib.hid hAt
  clear hAt
  go_enter Tryd.func34, Tryd.ntmps34
  go_wp2_with fail
  have h0 := HA.out _ ((Below.refl _ _).alloc (Nat.le_refl _) _) (heap_alloc_new w _)
  refine (send_c w.heap.size _ 118 (.slice none 0 0) [] sums ⟨1, 0, 1, ⟨#[100, 111, 99, 107, 101, 116]⟩, false⟩ ⟨by decide, by decide, by decide, by decide, by decide⟩ (by simp) _ h0.blk rfl rfl (cl_out h0) (by simp [Value.ownBlock])).mono ?_
  rintro e w2 hp
  obtain ⟨V, rfl, h2, ht, hn⟩ := cl_sent h0 hp
  have HF := Lib.hid (And.intro h2 (And.intro ((Turn.of_below ((Below.refl w.heap.size w).alloc (Nat.le_refl _) _) : Turn (fun g => w.heap.size ≤ g) w _).trans (ht.weak (fun g hg => .inr (by
    rcases hg with hg | ⟨p, hp, hg⟩
    · exact Nat.le_of_eq hg.symm
    · simp only [CK, clParts, List.mem_cons, List.not_mem_nil, or_false] at hp
      rcases hp with rfl | rfl | rfl | rfl <;> cases hg)))) hn))
  clear h0 hp h2 ht hn
  go_wp2
  go_ret
  obtain ⟨h2, ht, hn⟩ := HF.out
  refine ⟨V, rfl, h2, ht.below (fun _ h => h) (Nat.le_refl _), fun g hg => ?_⟩
  rcases hn g hg with h | h
  · rcases h with h | ⟨p, hp, h⟩
    · exact Nat.le_of_eq h.symm
    · simp only [CK, clParts, List.mem_cons, List.not_mem_nil, or_false] at hp
      rcases hp with rfl | rfl | rfl | rfl <;> cases h
  · simp at h; omega
end Go.Proofs.YtkpickojeghppaaDoor
namespace Go.Proofs.YtkpickojeghppaaDoor
open Go.RowKit
structure Cl.Ok (s : Cl) : Prop where
  id : s.id ≤ 4000000000
  asked : s.asked.length ≤ 16
def Cl.long (s : Cl) (body : ByteArray) : Bool := !decide (24 + body.size + (if s.sums then 4 else 0) ≤ 131072)
def Cl.askM (s : Cl) (body : ByteArray) : WMsg := ⟨s.id, 0, 3, body, false⟩
def Cl.ask (s : Cl) (body : ByteArray) : Cl × Nat × Nat :=
  if (s.closed || s.ending) = true then (s, 0, 285) else if 16 ≤ s.asked.length then (s, 0, 5) else if s.long body = true then (s, 0, 1)
  else (({ s with id := s.id + 1, asked := s.asked ++ [s.id] } : Cl).send (s.askM body), s.id, packE ((s.askM body).summed s.sums))
def Cl.askV (r : Cl × Nat × Nat) : Value := .tuple #[.int .u32 (r.2.1 : Int), .int .i64 (r.2.2 : Int)]
def Cl.byeM (s : Cl) : WMsg := ⟨s.id, 0, 5, ⟨#[]⟩, false⟩
def Cl.part (s : Cl) : Cl × Nat :=
  if (s.closed || s.ending) = true then (s, 285) else (({ s with bye := s.id, ending := true, id := s.id + 1 } : Cl).send s.byeM, packE (s.byeM.summed s.sums))
theorem numTy : SlTy Tryd.prog 76 25 (.int .u32 0) 1 4 := ⟨by kernel_rfl, by kernel_rfl, by kernel_rfl, by decide⟩
theorem numsV_append (a b : List Nat) : numsV (a ++ b) = numsV a ++ numsV b := by simp [numsV]
/-- what is asked has grown -/
theorem cl_grown {w : World} {R : Nat} {V : CV} {s s2 : Cl} (h : CK.At w R V s) {q' : Value} {w1 : World} (hu : Upd w w1 V.q.ownBlock q'.ownBlock) (hs : Slab w1 1 q' s2.asked.length (numsV s2.asked))
    (hc : ((clCells R V s).setIfInBounds 8 q') = clCells R { V with q := q' } s2) (hi : s2.closed = s.closed) (hin : s2.inp = s.inp) (ho : s2.out = s.out) (hr : s2.came = s.came) :
    CK.At (w1.setCell ⟨R, 8, none⟩ q') R { V with q := q' } s2 ∧ Turn (CK.F R V s) w (w1.setCell ⟨R, 8, none⟩ q') ∧ ∀ g, CK.F R { V with q := q' } s2 g → CK.F R V s g ∨ w.heap.size ≤ g := by
  have hR := h.ltR
  have hb1 : w1.heap[R]? = some (.cells (clCells R V s) 118 (0, 0)) := (hu.block hR (h.nR _ (.tail _ (.tail _ (.head _))))).trans h.blk
  have hb2 := heap_setCell_same w1 R 8 _ _ q' hb1
  rw [hc] at hb2
  have hn : ∀ g, q'.ownBlock = some g → V.q.ownBlock = some g ∨ w.heap.size ≤ g := fun g hg => by
    rcases hu.own with e | ⟨q, e, hq⟩
    · left; rw [← e]; exact hg
    · right; rw [e] at hg; rw [← Option.some.inj hg]; exact hq
  have hne : ∀ g, q'.ownBlock = some g → g ≠ R := fun g hg e => by
    subst e
    rcases hn g hg with e | e
    · exact h.nR _ (.tail _ (.tail _ (.head _))) e
    · omega
  have hs2 : Slab (w1.setCell ⟨R, 8, none⟩ q') 1 q' s2.asked.length (numsV s2.asked) := Slab.same hs (fun g hg => heap_setCell_other _ _ _ _ (hne g hg))
  refine EK.repl (K := CK) (s2 := s2) [⟨1, V.i, s.inp.length, bytesV s.inp, s.closed = false⟩, ⟨1, V.o, s.out.length, bytesV s.out, True⟩] [⟨2, V.r, s.came.length, cameV s.came, True⟩]
    ⟨1, V.q, s.asked.length, numsV s.asked, True⟩ ⟨1, q', s2.asked.length, numsV s2.asked, True⟩ rfl (by show clParts _ s2 = _; simp only [clParts, hi, hin, ho, hr]; rfl) h ?_ hb2 (fun _ => hs2) (fun g hg => Slab.lt hs2 hg) hn
  exact ((Turn.refl (fun g => g = R ∨ V.q.ownBlock = some g) w).upd hu (fun g hg => .inl (.inr hg))).set (.inl (.inl rfl)) 8 q'
set_option maxRecDepth 20000 in
set_option maxHeartbeats 4000000 in
theorem ask_c (R : Nat) (V : CV) (s : Cl) (hok : s.Ok) (body : ByteArray) (hbs : body.size ≤ 9223372036854770000) (hlen : s.out.length ≤ 274877906944) (w : World) (h : CK.At w R V s) :
    Calls Tryd.prog 38 #[.pointer (some ⟨R, 0, none⟩), .string body] w (CK.Post R V s w (s.ask body).1 (Cl.askV (s.ask body))) := by
  obtain ⟨⟨_, _, c2, _, _, _, _, c7, c8, _, _, c11⟩, hf⟩ := cl_cells h
  have f7 := hf 7
  have f8 := hf 8
  have hRl := h.ltR
  clear hf
  by_cases hst : (s.closed || s.ending) = true
  · have HT := Lib.hid (show s.ask body = (s, 0, 285) from if_pos hst)
    have H := Lib.hid h
    have hst2 := hst
    clear h hok c7 c8 f7 f8
    cases hcl : s.closed with
    | true =>
      rw [hcl] at c2
      clear hst hst2
      go_enter Tryd.func38, Tryd.ntmps38
      go_wp2
      go_ret2
      rw [HT.out]
      exact EK.post_same H.out _
    | false =>
      have hen : s.ending = true := by rw [hcl] at hst; exact hst
      rw [hcl] at c2
      rw [hen] at c11
      clear hst hst2
      go_enter Tryd.func38, Tryd.ntmps38
      go_wp2
      go_ret2
      rw [HT.out]
      exact EK.post_same H.out _
  · have hcl : s.closed = false := by cases h : s.closed with | false => rfl | true => rw [h] at hst; exact absurd rfl hst
    have hen : s.ending = false := by cases h : s.ending with | false => rfl | true => rw [h, Bool.or_true] at hst; exact absurd rfl hst
    rw [hcl] at c2
    rw [hen] at c11
    have hq := cl_asked h
    obtain ⟨A, cap, hvq, hnc, hcm, _⟩ := Slab.form hq
    obtain ⟨vi, vo, vq, vr⟩ := V
    simp only at hvq c8
    subst hvq
    have hfits := fits_c R ⟨vi, vo, .slice A s.asked.length cap, vr⟩ s body hbs w h
    by_cases hfull : 16 ≤ s.asked.length
    · have HT := Lib.hid (show s.ask body = (s, 0, 5) by unfold Cl.ask; rw [if_neg hst, if_pos hfull])
      have H := Lib.hid h
      clear h hok c7 f7 f8 hst hq hfits
      go_enter Tryd.func38, Tryd.ntmps38
      go_wp2
      go_ret2
      rw [HT.out]
      exact EK.post_same H.out _
    · by_cases hlg : s.long body = true
      · have HT := Lib.hid (show s.ask body = (s, 0, 1) by unfold Cl.ask; rw [if_neg hst, if_neg hfull, if_pos hlg])
        have H := Lib.hid h
        unfold Cl.long at hlg
        simp only [Bool.not_eq_true'] at hlg
        rw [hlg] at hfits
        have HFI := Lib.hid hfits
        clear h hok c7 f7 f8 hst hq hfits hlg
        go_enter Tryd.func38, Tryd.ntmps38
        go_wp2_with (go_at_call 71; refine HFI.out.mono ?_; rintro e w' ⟨rfl, rfl⟩)
        go_ret2
        rw [HT.out]
        exact EK.post_same H.out _
      · have hl2 : s.long body = false := by simpa using hlg
        have HT := Lib.hid (show s.ask body = (({ s with id := s.id + 1, asked := s.asked ++ [s.id] } : Cl).send (s.askM body), s.id, packE ((s.askM body).summed s.sums)) by unfold Cl.ask; rw [if_neg hst, if_neg hfull, if_neg hlg])
        unfold Cl.long at hl2
        simp only [Bool.not_eq_false'] at hl2
        rw [hl2] at hfits
        have HFI := Lib.hid hfits
        have hidl := hok.id
        have e1 : (((s.id + 1 : Nat)) : Int) = (s.id : Int) + 1 := rfl
        obtain ⟨h1, ht1, hn1⟩ := cl_put h (s2 := { s with id := s.id + 1 }) ((Turn.refl (fun g => g = R) w).set (g := R) (.inl rfl) 7 (.int .u32 ((s.id : Int) + 1))) (heap_setCell_same _ R 7 _ _ (.int .u32 ((s.id : Int) + 1)) h.blk) (fun _ => ⟨hcl, rfl⟩) rfl rfl rfl
        have hb2 : Below (w.setCell ⟨R, 7, none⟩ (.int .u32 ((s.id : Int) + 1))).heap.size (w.setCell ⟨R, 7, none⟩ (.int .u32 ((s.id : Int) + 1))) ((w.setCell ⟨R, 7, none⟩ (.int .u32 ((s.id : Int) + 1))).alloc (.cells #[.int .u32 (s.id : Int)] 25)) := (Below.refl _ _).alloc (Nat.le_refl _) _
        have h2 : CK.At ((w.setCell ⟨R, 7, none⟩ (.int .u32 ((s.id : Int) + 1))).alloc (.cells #[.int .u32 (s.id : Int)] 25)) R _ _ := StAt.below h1 hb2
        have H2 := Lib.hid h2
        have HT2 := Lib.hid (ht1.trans (Turn.of_below hb2))
        have HS2 := Lib.hid (show Src Tryd.prog 1 76 (.slice (some ⟨w.heap.size, 0, none⟩) 1 1) 1 [.int .u32 (s.id : Int)] ((w.setCell ⟨R, 7, none⟩ (.int .u32 ((s.id : Int) + 1))).alloc (.cells #[.int .u32 (s.id : Int)] 25)) from
          Src.ofSlice _ numTy.slice _ 1 1 _ rfl (World.news_of_block (by have := heap_alloc_new (w.setCell ⟨R, 7, none⟩ (.int .u32 ((s.id : Int) + 1))) (.cells #[.int .u32 (s.id : Int)] 25); simpa using this)) (by simp [Value.oneCell']))
        have HM := Lib.hid (show MsgOk (s.askM body) from ⟨by show s.id < _; omega, by show (0 : Nat) < _; omega, by show _ ≤ (3 : Int); decide, by show (3 : Int) ≤ _; decide, hbs⟩)
        clear h hok hst hq hfits hl2 hlg h1 ht1 hn1 hb2 h2 e1
        go_enter Tryd.func38, Tryd.ntmps38
        go_wp2_with (first
          | (go_at_call 71; refine HFI.out.mono ?_; rintro e w' ⟨rfl, rfl⟩)
          | (at_builtin; refine wpList_slab numTy 76 (by rfl) _ _ (by rfl) (.slice A s.asked.length cap) s.asked.length (numsV s.asked) (by rfl) (cl_asked H2.out) _ (by rfl) 1 [.int .u32 (s.id : Int)] HS2.out (by unfold maxLen; omega) (by omega) ?_; intro v3 w3 hs3 hu3; have hs3' : Slab w3 1 v3 (s.asked ++ [s.id]).length (numsV (s.asked ++ [s.id])) := (by rw [List.length_append, numsV_append]; exact hs3); obtain ⟨h4, ht4, hn4⟩ := cl_grown H2.out (s2 := { s with id := s.id + 1, asked := s.asked ++ [s.id] }) hu3 hs3' rfl rfl rfl rfl rfl; have hb3 := (hu3.block H2.out.ltR (H2.out.nR _ (.tail _ (.tail _ (.head _))))).trans H2.out.blk; have d8 := cell_of_row _ _ 8 _ _ _ hb3; have e8 := frozen_of_row _ _ 8 _ _ hb3; have H4 := Lib.hid h4; have HT4 := Lib.hid (HT2.out.trans (ht4.weak (fun g hg => .inl (cl_F s hg)))); have HN4 := Lib.hid (show ∀ g, CK.F R _ _ g → CK.F R ⟨vi, vo, .slice A s.asked.length cap, vr⟩ s g ∨ w.heap.size ≤ g from fun g hg => (hn4 g hg).elim (fun e => .inl (cl_F s e)) (fun e => .inr (Nat.le_trans HT2.out.size e))); obtain ⟨A3, cap3, hv3, _⟩ := Slab.form hs3; subst hv3; clear hs3 hu3 hs3' h4 ht4 hn4 hb3)
          | (go_at_call 62; go_must (refine (send_c R _ 118 vo s.out s.sums (s.askM body) HM.out hlen _ H4.out.blk rfl rfl (cl_out H4.out) (H4.out.nR _ (.tail _ (.head _)))).mono ?_; rintro e w5 hp; obtain ⟨V5, rfl, h5, ht5, hn5⟩ := cl_sent H4.out hp; have HF := Lib.hid (And.intro h5 (And.intro (HT4.out.trans (ht5.weak (fun g hg => HN4.out g hg))) (show ∀ g, CK.F R V5 _ g → CK.F R ⟨vi, vo, .slice A s.asked.length cap, vr⟩ s g ∨ w.heap.size ≤ g from fun g hg => (hn5 g hg).elim (HN4.out g) (fun e => .inr (Nat.le_trans HT4.out.size e))))); clear hp h5 ht5 hn5)))
        go_ret2
        rw [HT.out]
        exact ⟨V5, rfl, HF.out.1, HF.out.2.1, HF.out.2.2⟩
set_option maxRecDepth 20000 in
set_option maxHeartbeats 4000000 in
theorem bye_c (R : Nat) (V : CV) (s : Cl) (hok : s.Ok) (hlen : s.out.length ≤ 274877906944) (w : World) (h : CK.At w R V s) :
    Calls Tryd.prog 40 #[.pointer (some ⟨R, 0, none⟩)] w (CK.Post R V s w s.part.1 (.int .i64 (s.part.2 : Int))) := by
  obtain ⟨⟨_, _, c2, _, _, _, _, c7, _, _, c10, c11⟩, hf⟩ := cl_cells h
  have f7 := hf 7
  have f10 := hf 10
  have f11 := hf 11
  have hRl := h.ltR
  clear hf
  by_cases hst : (s.closed || s.ending) = true
  · have HT := Lib.hid (show s.part = (s, 285) from if_pos hst)
    have H := Lib.hid h
    have hst2 := hst
    clear h hok c7 f7 f10 f11
    cases hcl : s.closed with
    | true =>
      rw [hcl] at c2
      clear hst hst2
      go_enter Tryd.func40, Tryd.ntmps40
      go_wp2
      go_ret
      rw [HT.out]
      exact EK.post_same H.out _
    | false =>
      have hen : s.ending = true := by rw [hcl] at hst; exact hst
      rw [hcl] at c2
      rw [hen] at c11
      clear hst hst2
      go_enter Tryd.func40, Tryd.ntmps40
      go_wp2
      go_ret
      rw [HT.out]
      exact EK.post_same H.out _
  · have hcl : s.closed = false := by cases h : s.closed with | false => rfl | true => rw [h] at hst; exact absurd rfl hst
    have hen : s.ending = false := by cases h : s.ending with | false => rfl | true => rw [h, Bool.or_true] at hst; exact absurd rfl hst
    rw [hcl] at c2
    rw [hen] at c11
    have HT := Lib.hid (show s.part = (({ s with bye := s.id, ending := true, id := s.id + 1 } : Cl).send s.byeM, packE (s.byeM.summed s.sums)) from if_neg hst)
    have hidl := hok.id
    have hblk := heap_setCell_same _ R 7 _ _ (.int .u32 ((s.id : Int) + 1)) (heap_setCell_same _ R 11 _ _ (.bool true) (heap_setCell_same _ R 10 _ _ (.int .u32 (s.id : Int)) h.blk))
    have ht := (((Turn.refl (fun g => g = R) w).set (g := R) (.inl rfl) 10 (.int .u32 (s.id : Int))).set (g := R) (.inl rfl) 11 (.bool true)).set (g := R) (.inl rfl) 7 (.int .u32 ((s.id : Int) + 1))
    have h1 := cl_put h (s2 := { s with bye := s.id, ending := true, id := s.id + 1 }) ht hblk (fun _ => ⟨hcl, rfl⟩) rfl rfl rfl
    have H1 := Lib.hid h1
    have HM := Lib.hid (show MsgOk s.byeM from ⟨by show s.id < _; omega, by show (0 : Nat) < _; omega, by show _ ≤ (5 : Int); decide, by show (5 : Int) ≤ _; decide, by show (0 : Nat) ≤ _; omega⟩)
    have hq : ∀ n, CK.At (World.drewN _ n) R V _ := fun n => StAt.below h1.1 (below_drewN' _ n)
    have ho := fun n => cl_out (hq n)
    have HSEND := Lib.hid (fun (n : Nat) => show Calls Tryd.prog 62 #[.pointer (some ⟨R, 0, none⟩), .agg #[.int .u32 (s.id : Int), .int .u32 0, .int .i64 5, .string ⟨#[]⟩, .bool false]] _ (fun e w2 => CK.Post R V s w (({ s with bye := s.id, ending := true, id := s.id + 1 } : Cl).send s.byeM) (.int .i64 (packE (s.byeM.summed s.sums) : Int)) e w2) from
      (send_c R _ 118 V.o s.out s.sums s.byeM HM.out hlen _ (hq n).blk rfl rfl (ho n) (h.nR _ (.tail _ (.head _)))).mono (fun e w2 hp => EK.seq (h1.2.1.trans (Turn.of_below (below_drewN' _ n))) (fun g hg => h1.2.2 g hg) (cl_sent (hq n) hp)))
    clear h hok hst hblk ht h1 hq ho
    go_enter Tryd.func40, Tryd.ntmps40
    go_wp2
    go_region_with (go_at_call 62; refine (HSEND.out _).mono ?_; rintro e w2 ⟨V5, rfl, h5, ht5, hn5⟩; have HF := Lib.hid (And.intro h5 (And.intro ht5 hn5)); clear h5 ht5 hn5)
    all_goals (
      go_wp2
      go_ret
      rw [HT.out]
      exact ⟨V5, rfl, HF.out.1, HF.out.2.1, HF.out.2.2⟩)
set_option maxHeartbeats 2000000 in
theorem clOpen_c (R : Nat) (V : CV) (s : Cl) (w : World) (h : CK.At w R V s) :
    Calls Tryd.prog 45 #[.pointer (some ⟨R, 0, none⟩)] w fun e w' => e = .returned (.bool (!s.closed)) ∧ w = w' := by
  have c2 := (cl_cells h).1.2.2.1
  generalize s.closed = cl at *
  clear h
  go_enter Tryd.func45, Tryd.ntmps45
  go_wp2
  go_ret
  exact ⟨rfl, rfl⟩
set_option maxHeartbeats 2000000 in
theorem clWhy_c (R : Nat) (V : CV) (s : Cl) (w : World) (h : CK.At w R V s) :
    Calls Tryd.prog 46 #[.pointer (some ⟨R, 0, none⟩)] w fun e w' => e = .returned (.int .i64 (s.why : Int)) ∧ w = w' := by
  have c4 := (cl_cells h).1.2.2.2.2.1
  generalize s.why = y at *
  clear h
  go_enter Tryd.func46, Tryd.ntmps46
  go_wp2
  go_ret
  exact ⟨rfl, rfl⟩
/-- Out: what went out; it is the caller's -/
def ClOutPost (R : Nat) (V : CV) (s : Cl) (w : World) (e : Ending) (w' : World) : Prop :=
  e = .returned V.o ∧ CK.At w' R { V with o := .slice none 0 0 } { s with out := [] } ∧ BSlab w' V.o s.out ∧ Turn (fun g => g = R) w w'
set_option maxHeartbeats 2000000 in
theorem clOut_c (R : Nat) (V : CV) (s : Cl) (w : World) (h : CK.At w R V s) :
    Calls Tryd.prog 44 #[.pointer (some ⟨R, 0, none⟩)] w (ClOutPost R V s w) := by
  have HT := Lib.hid (taken_c R (clCells R V s) 118 V.o w h.blk rfl)
  have H := Lib.hid h
  clear h
  go_enter Tryd.func44, Tryd.ntmps44
  go_wp2_with fail
  refine HT.out.mono ?_; rintro e w1 ⟨rfl, hb, ht⟩
  have HB := Lib.hid (And.intro hb ht)
  clear hb ht
  go_wp2
  go_ret
  obtain ⟨hb, ht⟩ := HB.out
  refine ⟨rfl, ?_, Slab.turn (cl_out H.out) ht (fun g hg e => H.out.nR _ (.tail _ (.head _)) (by rw [← e]; exact hg)), ht⟩
  exact (EK.repl (K := CK) (v2 := { V with o := .slice none 0 0 }) (s2 := { s with out := [] }) [⟨1, V.i, s.inp.length, bytesV s.inp, s.closed = false⟩] [⟨1, V.q, s.asked.length, numsV s.asked, True⟩, ⟨2, V.r, s.came.length, cameV s.came, True⟩]
    ⟨1, V.o, s.out.length, bytesV s.out, True⟩ ⟨1, .slice none 0 0, 0, [], True⟩ rfl rfl H.out (ht.weak (fun g hg => .inl hg)) hb (fun _ => slab_nil _ _) (fun g hg => by cases hg) (fun g hg => by cases hg)).1
end Go.Proofs.YtkpickojeghppaaDoor
namespace Go.Proofs.YtkpickojeghppaaDoor
open Go.RowKit
theorem EK.post_then {V S : Type} {K : EK V S} {R : Nat} {v v2 : V} {s s2 : S} {w w1 w' : World} (h : K.At w1 R v2 s2 ∧ Turn (K.F R v s) w w1 ∧ ∀ g, K.F R v2 s2 g → K.F R v s g ∨ w.heap.size ≤ g) (hb : Below w1.heap.size w1 w') (r : Value) : K.Post R v s w s2 r (.returned r) w' :=
  ⟨v2, rfl, StAt.below h.1 hb, h.2.1.trans (Turn.of_below hb), h.2.2⟩
def Cl.reply (s : Cl) : Cl × Value := match s.came with
  | [] => (s, .tuple #[.int .u32 0, .string ⟨#[]⟩, .bool false])
  | (i, b) :: r => ({ s with came := r }, .tuple #[.int .u32 (i : Int), .string b, .bool true])
/-- the first reply is no more -/
theorem cl_tail {w : World} {R G o o2 cap : Nat} {vi vo vq : Value} {s : Cl} {x : Nat × ByteArray} {r : List (Nat × ByteArray)} (h : CK.At w R ⟨vi, vo, vq, .slice (some ⟨G, o, none⟩) s.came.length cap⟩ s) (hx : s.came = x :: r) (c3 : Nat) (hc3 : c3 = cap - 1) (hp : o2 = o + 2 ∨ cap - 1 = 0) :
    CK.At (w.setCell ⟨R, 9, none⟩ (.slice (some ⟨G, o2, none⟩) (s.came.length - 1) c3)) R ⟨vi, vo, vq, .slice (some ⟨G, o2, none⟩) (s.came.length - 1) c3⟩ { s with came := r } ∧
    Turn (CK.F R ⟨vi, vo, vq, .slice (some ⟨G, o, none⟩) s.came.length cap⟩ s) w (w.setCell ⟨R, 9, none⟩ (.slice (some ⟨G, o2, none⟩) (s.came.length - 1) c3)) ∧
    ∀ g, CK.F R ⟨vi, vo, vq, .slice (some ⟨G, o2, none⟩) (s.came.length - 1) c3⟩ { s with came := r } g → CK.F R ⟨vi, vo, vq, .slice (some ⟨G, o, none⟩) s.came.length cap⟩ s g ∨ w.heap.size ≤ g := by
  subst hc3
  have hG : G < w.heap.size := h.lt _ (.tail _ (.tail _ (.tail _ (.head _)))) G rfl
  have hne : G ≠ R := fun e => h.nR _ (.tail _ (.tail _ (.tail _ (.head _)))) (by rw [← e]; rfl)
  have hs := Slab.tail (cl_came h) 1 (by rw [hx]; simp) (o2 := o2) (by simpa using hp)
  rw [hx] at hs
  have hs2 : Slab w 2 (.slice (some ⟨G, o2, none⟩) (s.came.length - 1) (cap - 1)) r.length (cameV r) := by rw [hx]; exact hs
  exact EK.repl (K := CK) (v2 := ⟨vi, vo, vq, .slice (some ⟨G, o2, none⟩) (s.came.length - 1) (cap - 1)⟩) (s2 := { s with came := r }) [⟨1, vi, s.inp.length, bytesV s.inp, s.closed = false⟩, ⟨1, vo, s.out.length, bytesV s.out, True⟩, ⟨1, vq, s.asked.length, numsV s.asked, True⟩] []
    ⟨2, .slice (some ⟨G, o, none⟩) s.came.length cap, s.came.length, cameV s.came, True⟩ ⟨2, .slice (some ⟨G, o2, none⟩) (s.came.length - 1) (cap - 1), r.length, cameV r, True⟩ rfl rfl h ((Turn.refl (fun g => g = R ∨ _) w).set (.inl (.inl rfl)) 9 _) (heap_setCell_same _ R 9 _ _ _ h.blk)
    (fun _ => Slab.same hs2 (fun g hg => heap_setCell_other _ _ _ _ (by rw [← Option.some.inj hg]; exact hne))) (fun g hg => by rw [← Option.some.inj hg]; simpa using hG) (fun g hg => .inl hg)
set_option maxRecDepth 20000 in
set_option maxHeartbeats 4000000 in
theorem reply_c (R : Nat) (V : CV) (s : Cl) (w : World) (h : CK.At w R V s) :
    Calls Tryd.prog 42 #[.pointer (some ⟨R, 0, none⟩)] w (CK.Post R V s w s.reply.1 s.reply.2) := by
  obtain ⟨⟨_, _, _, _, _, _, _, _, _, c9, _, _⟩, hf⟩ := cl_cells h
  have f9 := hf 9
  have hRl := h.ltR
  clear hf
  obtain ⟨A, cap, hvr, hnc, hcm, hform⟩ := Slab.form (cl_came h)
  obtain ⟨vi, vo, vq, vr⟩ := V
  simp only at hvr c9
  subst hvr
  obtain ⟨l, hl⟩ : ∃ l, s.came = l := ⟨_, rfl⟩
  cases l with
  | nil =>
    have HT := Lib.hid (show s.reply = (s, .tuple #[.int .u32 0, .string ⟨#[]⟩, .bool false]) by unfold Cl.reply; rw [hl])
    have H := Lib.hid h
    have hz : s.came.length = 0 := by rw [hl]; rfl
    have c9q := c9
    rw [hz] at c9q
    have c9' : w.cell? ⟨R, 9, none⟩ = some (.slice A 0 cap) := c9q
    have HL := Lib.hid hl
    clear h hl hform c9 c9q hz
    go_enter Tryd.func42, Tryd.ntmps42
    go_wp2
    refine bodyPost_ret (results_tmp3 rfl _ _ _) rfl ?_
    rw [HT.out]
    exact EK.post_same H.out _
  | cons x r =>
    obtain ⟨i, b⟩ := x
    have HT := Lib.hid (show s.reply = ({ s with came := r }, .tuple #[.int .u32 (i : Int), .string b, .bool true]) by unfold Cl.reply; rw [hl])
    have hlen : s.came.length = r.length + 1 := by rw [hl]; rfl
    obtain ⟨G, o, rfl, hG⟩ : ∃ G o, A = some ⟨G, o, none⟩ ∧ w.rangeAt G o (cameV s.came) := by
      rcases hform with ⟨_, h0, _⟩ | ⟨g, off, h1, _, _, h2, _⟩
      · omega
      · exact ⟨g, off, h1, h2⟩
    have d0 : w.cell? ⟨G, o, none⟩ = some (.int .u32 (i : Int)) := hG 0 _ (by rw [hl]; rfl)
    have d1 : w.cell? ⟨G, o + 1, none⟩ = some (.string b) := hG 1 _ (by rw [hl]; rfl)
    have hn0 : ((s.came.length : Int) == 0) = false := by rw [beq_eq_false_iff_ne]; omega
    have hn1 : (0 : Int) < (s.came.length : Int) := by omega
    have HC := Lib.hid (fun (o2 c3 : Nat) (hc3 : c3 = cap - 1) (hp : o2 = o + 2 ∨ cap - 1 = 0) => cl_tail (o2 := o2) h hl c3 hc3 hp)
    have HL := Lib.hid hlen
    clear h hl hform hG
    have hnp : 1 ≤ s.came.length := by omega
    clear hlen
    generalize hcl : s.came.length = n at *
    clear hcl
    by_cases hc3 : cap - 1 = 0
    · go_enter Tryd.func42, Tryd.ntmps42
      go_wp2
      go_quiet (fail)
      go_wp2
      refine bodyPost_ret (results_tmp3 rfl _ _ _) rfl ?_
      rw [HT.out]
      exact EK.post_then (HC.out o 0 hc3.symm (.inr hc3)) (below_drewN ((Below.refl _ _).alloc (Nat.le_refl _) _) nq) _
    · have hcx : 1 ≤ cap := by omega
      go_enter Tryd.func42, Tryd.ntmps42
      go_wp2
      go_quiet (fail)
      go_wp2
      refine bodyPost_ret (results_tmp3 rfl _ _ _) rfl ?_
      rw [HT.out]
      exact EK.post_then (HC.out (o + 2) (cap - 1) rfl (.inl rfl)) (below_drewN ((Below.refl _ _).alloc (Nat.le_refl _) _) nq) _
end Go.Proofs.YtkpickojeghppaaDoor
namespace Go.Proofs.YtkpickojeghppaaDoor
open Go.RowKit
theorem replTy : SlTy Tryd.prog 116 122 (.agg #[.int .u32 0, .string ⟨#[]⟩]) 2 24 := ⟨by kernel_rfl, by kernel_rfl, by kernel_rfl, by decide⟩
theorem cameV_append (a b : List (Nat × ByteArray)) : cameV (a ++ b) = cameV a ++ cameV b := by simp [cameV]
/-- what came has grown -/
theorem cl_cgrown {w : World} {R : Nat} {V : CV} {s s2 : Cl} (h : CK.At w R V s) {q' : Value} {w1 : World} (hu : Upd w w1 V.r.ownBlock q'.ownBlock) (hs : Slab w1 2 q' s2.came.length (cameV s2.came))
    (hc : ((clCells R V s).setIfInBounds 9 q') = clCells R { V with r := q' } s2) (hi : s2.closed = s.closed) (hin : s2.inp = s.inp) (ho : s2.out = s.out) (hr : s2.asked = s.asked) :
    CK.At (w1.setCell ⟨R, 9, none⟩ q') R { V with r := q' } s2 ∧ Turn (CK.F R V s) w (w1.setCell ⟨R, 9, none⟩ q') ∧ ∀ g, CK.F R { V with r := q' } s2 g → CK.F R V s g ∨ w.heap.size ≤ g := by
  have hR := h.ltR
  have hb1 : w1.heap[R]? = some (.cells (clCells R V s) 118 (0, 0)) := (hu.block hR (h.nR _ (.tail _ (.tail _ (.tail _ (.head _)))))).trans h.blk
  have hb2 := heap_setCell_same w1 R 9 _ _ q' hb1
  rw [hc] at hb2
  have hn : ∀ g, q'.ownBlock = some g → V.r.ownBlock = some g ∨ w.heap.size ≤ g := fun g hg => by
    rcases hu.own with e | ⟨q, e, hq⟩
    · left; rw [← e]; exact hg
    · right; rw [e] at hg; rw [← Option.some.inj hg]; exact hq
  have hne : ∀ g, q'.ownBlock = some g → g ≠ R := fun g hg e => by
    subst e
    rcases hn g hg with e | e
    · exact h.nR _ (.tail _ (.tail _ (.tail _ (.head _)))) e
    · omega
  have hs2 : Slab (w1.setCell ⟨R, 9, none⟩ q') 2 q' s2.came.length (cameV s2.came) := Slab.same hs (fun g hg => heap_setCell_other _ _ _ _ (hne g hg))
  refine EK.repl (K := CK) (s2 := s2) [⟨1, V.i, s.inp.length, bytesV s.inp, s.closed = false⟩, ⟨1, V.o, s.out.length, bytesV s.out, True⟩, ⟨1, V.q, s.asked.length, numsV s.asked, True⟩] []
    ⟨2, V.r, s.came.length, cameV s.came, True⟩ ⟨2, q', s2.came.length, cameV s2.came, True⟩ rfl (by show clParts _ s2 = _; simp only [clParts, hi, hin, ho, hr]; rfl) h ?_ hb2 (fun _ => hs2) (fun g hg => Slab.lt hs2 hg) hn
  exact ((Turn.refl (fun g => g = R ∨ V.r.ownBlock = some g) w).upd hu (fun g hg => .inl (.inr hg))).set (.inl (.inl rfl)) 9 q'
/-- the first ask is no more -/
theorem cl_qtail {w : World} {R G o o2 cap : Nat} {vi vo vr : Value} {s : Cl} {x : Nat} {r : List Nat} (h : CK.At w R ⟨vi, vo, .slice (some ⟨G, o, none⟩) s.asked.length cap, vr⟩ s) (hx : s.asked = x :: r) (c3 : Nat) (hc3 : c3 = cap - 1) (hp : o2 = o + 1 ∨ cap - 1 = 0) :
    CK.At (w.setCell ⟨R, 8, none⟩ (.slice (some ⟨G, o2, none⟩) (s.asked.length - 1) c3)) R ⟨vi, vo, .slice (some ⟨G, o2, none⟩) (s.asked.length - 1) c3, vr⟩ { s with asked := r } ∧
    Turn (CK.F R ⟨vi, vo, .slice (some ⟨G, o, none⟩) s.asked.length cap, vr⟩ s) w (w.setCell ⟨R, 8, none⟩ (.slice (some ⟨G, o2, none⟩) (s.asked.length - 1) c3)) ∧
    ∀ g, CK.F R ⟨vi, vo, .slice (some ⟨G, o2, none⟩) (s.asked.length - 1) c3, vr⟩ { s with asked := r } g → CK.F R ⟨vi, vo, .slice (some ⟨G, o, none⟩) s.asked.length cap, vr⟩ s g ∨ w.heap.size ≤ g := by
  subst hc3
  have hG : G < w.heap.size := h.lt _ (.tail _ (.tail _ (.head _))) G rfl
  have hne : G ≠ R := fun e => h.nR _ (.tail _ (.tail _ (.head _))) (by rw [← e]; rfl)
  have hs := Slab.tail (cl_asked h) 1 (by rw [hx]; simp) (o2 := o2) (by simpa using hp)
  rw [hx] at hs
  have hs2 : Slab w 1 (.slice (some ⟨G, o2, none⟩) (s.asked.length - 1) (cap - 1)) r.length (numsV r) := by rw [hx]; exact hs
  exact EK.repl (K := CK) (v2 := ⟨vi, vo, .slice (some ⟨G, o2, none⟩) (s.asked.length - 1) (cap - 1), vr⟩) (s2 := { s with asked := r }) [⟨1, vi, s.inp.length, bytesV s.inp, s.closed = false⟩, ⟨1, vo, s.out.length, bytesV s.out, True⟩] [⟨2, vr, s.came.length, cameV s.came, True⟩]
    ⟨1, .slice (some ⟨G, o, none⟩) s.asked.length cap, s.asked.length, numsV s.asked, True⟩ ⟨1, .slice (some ⟨G, o2, none⟩) (s.asked.length - 1) (cap - 1), r.length, numsV r, True⟩ rfl rfl h ((Turn.refl (fun g => g = R ∨ _) w).set (.inl (.inl rfl)) 8 _) (heap_setCell_same _ R 8 _ _ _ h.blk)
    (fun _ => Slab.same hs2 (fun g hg => heap_setCell_other _ _ _ _ (by rw [← Option.some.inj hg]; exact hne))) (fun g hg => by rw [← Option.some.inj hg]; simpa using hG) (fun g hg => .inl hg)
theorem EK.chain {V S : Type} {K : EK V S} {R : Nat} {v v3 v4 : V} {s s3 s4 : S} {w wd w3 w4 : World} (hb : Below w.heap.size w wd) (ht : Turn (K.F R v s) wd w3) (hn : ∀ g, K.F R v3 s3 g → K.F R v s g ∨ wd.heap.size ≤ g) (h : K.At w4 R v4 s4 ∧ Turn (K.F R v3 s3) w3 w4 ∧ ∀ g, K.F R v4 s4 g → K.F R v3 s3 g ∨ w3.heap.size ≤ g) (r : Value) : K.Post R v s w s4 r (.returned r) w4 :=
  EK.seq (v1 := v3) (s1 := s3) ((Turn.of_below hb).trans (ht.weak (fun _ hg => .inl hg))) (fun g hg => (hn g hg).imp (fun e => e) (fun e => Nat.le_trans hb.size e)) ⟨v4, rfl, h.1, h.2.1, h.2.2⟩
set_option maxRecDepth 20000 in
set_option maxHeartbeats 4000000 in
/-- a reply -/
theorem clLater4_c (R : Nat) (V : CV) (s : Cl) (hb : s.began = true) (id to : Nat) (body : ByteArray) (sm : Bool) (hal : s.asked.length ≤ 1000) (hcl : s.came.length ≤ 1099511627776) (w : World) (h : CK.At w R V s) :
    Calls Tryd.prog 76 #[.pointer (some ⟨R, 0, none⟩), .agg #[.int .u32 (id : Int), .int .u32 (to : Int), .int .i64 4, .string body, .bool sm]] w (CK.Post R V s w (s.take ⟨id, to, 4, body, sm⟩).1 (.int .i64 ((s.take ⟨id, to, 4, body, sm⟩).2 : Int))) := by
  have hRl := h.ltR
  have hb0 : Below w.heap.size w (w.alloc (.cells #[.int .u32 (id : Int), .int .u32 (to : Int), .int .i64 4, .string body, .bool sm] 27)) := (Below.refl _ _).alloc (Nat.le_refl _) _
  have HW := Lib.hid (fun (n : Nat) => And.intro (StAt.below h (below_drewN hb0 n) : CK.At _ R V s) (And.intro (below_drewN hb0 n) (show ((w.alloc (.cells #[.int .u32 (id : Int), .int .u32 (to : Int), .int .i64 4, .string body, .bool sm] 27)).drewN n).heap[w.heap.size]? = some (.cells #[.int .u32 (id : Int), .int .u32 (to : Int), .int .i64 4, .string body, .bool sm] 27) from heap_alloc_new w _)))
  have c8 := (cl_cells h).1.2.2.2.2.2.2.2.2.1
  obtain ⟨A, cap, hvq, hnc, hcm, hform⟩ := Slab.form (cl_asked h)
  obtain ⟨vi, vo, vq, vr⟩ := V
  simp only at hvq c8
  subst hvq
  obtain ⟨l, hl⟩ : ∃ l, s.asked = l := ⟨_, rfl⟩
  cases l with
  | nil =>
    have HT := Lib.hid (show s.take ⟨id, to, 4, body, sm⟩ = (s, 284) by unfold Cl.take; rw [if_neg (by rw [hb]; decide), if_pos rfl, hl])
    have hz : s.asked.length = 0 := by rw [hl]; rfl
    have c8' := c8
    rw [hz] at c8'
    clear h hb hb0 c8 hl hform hz hnc
    go_enter Tryd.func76, Tryd.ntmps76
    go_wp2
    go_quiet (fail)
    go_wp2
    go_ret
    rw [HT.out]
    exact ⟨_, rfl, (HW.out nq).1, Turn.of_below (HW.out nq).2.1, fun g hg => .inl hg⟩
  | cons x r =>
    have hlen : s.asked.length = r.length + 1 := by rw [hl]; rfl
    obtain ⟨G, o, rfl, hG⟩ : ∃ G o, A = some ⟨G, o, none⟩ ∧ w.rangeAt G o (numsV s.asked) := by
      rcases hform with ⟨_, h0, _⟩ | ⟨g, off, h1, _, _, h2, _⟩
      · omega
      · exact ⟨g, off, h1, h2⟩
    have d0 : w.cell? ⟨G, o, none⟩ = some (.int .u32 (x : Int)) := hG 0 _ (by rw [hl]; rfl)
    have hGl := cell_lt d0
    simp only at hGl
    have hn1 : (0 : Int) < (s.asked.length : Int) := by omega
    have hnp : 0 < s.asked.length := by omega
    have hnd : decide (0 < s.asked.length) = true := decide_eq_true hnp
    by_cases hx : to = x
    · subst hx
      have HT := Lib.hid (show s.take ⟨id, to, 4, body, sm⟩ = ({ s with came := s.came ++ [(to, body)], asked := r }, 0) by unfold Cl.take; rw [if_neg (by rw [hb]; decide), if_pos rfl, hl]; exact if_pos rfl)
      have HL := Lib.hid hl
      clear h hb hb0 hform hG hl hlen
      go_enter Tryd.func76, Tryd.ntmps76
      go_wp2
      go_big_quiet (fail)
      obtain ⟨h1, hb1, hx1⟩ := HW.out nq
      have H1 := Lib.hid h1
      have HB1 := Lib.hid hb1
      have c9 := (cl_cells h1).1.2.2.2.2.2.2.2.2.2.1
      obtain ⟨A9, cap9, hvr, _, _, _⟩ := Slab.form (cl_came h1)
      simp only at hvr c9
      subst hvr
      obtain ⟨⟨b0, b1, b2, b3, b4⟩, _⟩ := cellsOf5 hx1
      have c8' := (cl_cells h1).1.2.2.2.2.2.2.2.2.1
      have hRl1 := h1.ltR
      clear h1 hb1 hx1 HW c8 d0
      generalize (w.alloc (.cells #[.int .u32 (id : Int), .int .u32 (to : Int), .int .i64 4, .string body, .bool sm] 27)).drewN nq = W at *
      go_wp2
      have c9a := cell_below (show Below W.heap.size W (W.alloc (.cells #[.int .u32 (to : Int), .string body] 122)) from (by repeat (first | with_reducible exact Below.refl _ _ | with_reducible refine below_drewN ?_ _ | with_reducible refine Below.drew ?_ | with_reducible refine Below.alloc ?_ (by first | (simp; done) | (simp; omega)) _ | with_reducible refine Below.setCell ?_ (by first | (simp; done) | (simp; omega)) _))) c9
      have c9b := cell_below (show Below W.heap.size W (W.drew.alloc (.cells #[.int .u32 (to : Int), .string body] 122)) from (by repeat (first | with_reducible exact Below.refl _ _ | with_reducible refine below_drewN ?_ _ | with_reducible refine Below.drew ?_ | with_reducible refine Below.alloc ?_ (by first | (simp; done) | (simp; omega)) _ | with_reducible refine Below.setCell ?_ (by first | (simp; done) | (simp; omega)) _))) c9
      go_region_law (first
          | (refine step_slab replTy 116 (by rfl) _ _ (by rfl) (.slice A9 s.came.length cap9) s.came.length (cameV s.came) (by rfl) (Slab.below (cl_came H1.out) (by repeat (first | with_reducible exact Below.refl _ _ | with_reducible refine below_drewN ?_ _ | with_reducible refine Below.drew ?_ | with_reducible refine Below.alloc ?_ (by first | (simp; done) | (simp; omega)) _ | with_reducible refine Below.setCell ?_ (by first | (simp; done) | (simp; omega)) _))) (.slice (some ⟨W.heap.size, 0, none⟩) 1 1) (by rfl) 1 [.int .u32 (to : Int), .string body] (Src.ofSlice _ replTy.slice _ 1 1 _ rfl (World.news_of_block (heap_alloc_new _ _)) (by simp [Value.oneCell'])) (by unfold maxLen; omega) (by omega) ?_; intro vr2 W2 hs2 hu2; have hBq : CK.At _ R ⟨vi, vo, .slice (some ⟨G, o, none⟩) s.asked.length cap, .slice A9 s.came.length cap9⟩ s := StAt.below (w' := W.drew.alloc (.cells #[.int .u32 (to : Int), .string body] 122)) H1.out (by repeat (first | with_reducible exact Below.refl _ _ | with_reducible refine below_drewN ?_ _ | with_reducible refine Below.drew ?_ | with_reducible refine Below.alloc ?_ (by first | (simp; done) | (simp; omega)) _ | with_reducible refine Below.setCell ?_ (by first | (simp; done) | (simp; omega)) _)); have hbq := (hu2.block hBq.ltR (hBq.nR _ (.tail _ (.tail _ (.tail _ (.head _)))))).trans hBq.blk; have d9 : W2.cell? ⟨R, 9, none⟩ = some (.slice A9 s.came.length cap9) := cell_of_row _ _ _ _ _ _ hbq; have e9 : W2.frozen? ⟨R, 9, none⟩ = false := frozen_of_row _ _ _ _ _ hbq; have hs2' : Slab W2 2 vr2 (s.came ++ [(to, body)]).length (cameV (s.came ++ [(to, body)])) := (by rw [List.length_append, cameV_append]; exact hs2); obtain ⟨hf1, hf2, hf3⟩ := cl_cgrown hBq (s2 := { s with came := s.came ++ [(to, body)] }) hu2 hs2' rfl rfl rfl rfl rfl; have hd8 := (cl_cells hf1).1.2.2.2.2.2.2.2.2.1; have hk8 := (cl_cells hf1).2 8; have hRl2 := hf1.ltR; have HFIN := Lib.hid (And.intro hf1 (And.intro (HB1.out.trans (show Below w.heap.size W (W.drew.alloc (.cells #[.int .u32 (to : Int), .string body] 122)) from Below.mono (by repeat (first | with_reducible exact Below.refl _ _ | with_reducible refine below_drewN ?_ _ | with_reducible refine Below.drew ?_ | with_reducible refine Below.alloc ?_ (by first | (simp; done) | (simp; omega)) _ | with_reducible refine Below.setCell ?_ (by first | (simp; done) | (simp; omega)) _)) HB1.out.size)) (And.intro hf2 hf3))); obtain ⟨A2, cap2, hv2, _⟩ := Slab.form hs2; subst hv2; clear hs2 hu2 hBq hbq hs2' hf1 hf2 hf3))
      all_goals (
        obtain ⟨a1, a2, a3, a4⟩ := HFIN.out
        by_cases hc3 : cap - 1 = 0
        · have HQ := Lib.hid (EK.chain a2 a3 a4 (cl_qtail (s := { s with came := s.came ++ [(to, body)] }) (o2 := o) a1 HL.out 0 hc3.symm (.inr hc3)) (.int .i64 0))
          clear a1 a2 a3 a4
          go_wp2
          go_ret
          rw [HT.out]
          exact HQ.out
        · have hcx : 1 ≤ cap := by omega
          have HQ := Lib.hid (EK.chain a2 a3 a4 (cl_qtail (s := { s with came := s.came ++ [(to, body)] }) (o2 := o + 1) a1 HL.out (cap - 1) rfl (.inl rfl)) (.int .i64 0))
          clear a1 a2 a3 a4
          go_wp2
          go_ret
          rw [HT.out]
          exact HQ.out)
    · have HT := Lib.hid (show s.take ⟨id, to, 4, body, sm⟩ = (s, 284) by unfold Cl.take; rw [if_neg (by rw [hb]; decide), if_pos rfl, hl]; exact if_neg hx)
      have hxb : ((to : Int) == (x : Int)) = false := by rw [beq_eq_false_iff_ne]; omega
      clear h hb hb0 hform hG hl hlen hx
      go_enter Tryd.func76, Tryd.ntmps76
      go_wp2
      go_big_quiet (fail)
      go_wp2
      go_ret
      rw [HT.out]
      exact ⟨_, rfl, (HW.out nq).1, Turn.of_below (HW.out nq).2.1, fun g hg => .inl hg⟩
set_option maxRecDepth 20000 in
set_option maxHeartbeats 4000000 in
/-- a bye -/
theorem clLater5_c (R : Nat) (V : CV) (s : Cl) (hb : s.began = true) (id to : Nat) (body : ByteArray) (sm : Bool) (w : World) (h : CK.At w R V s) :
    Calls Tryd.prog 76 #[.pointer (some ⟨R, 0, none⟩), .agg #[.int .u32 (id : Int), .int .u32 (to : Int), .int .i64 5, .string body, .bool sm]] w (CK.Post R V s w (s.take ⟨id, to, 5, body, sm⟩).1 (.int .i64 ((s.take ⟨id, to, 5, body, sm⟩).2 : Int))) := by
  have hRl := h.ltR
  have hb0 : Below w.heap.size w (w.alloc (.cells #[.int .u32 (id : Int), .int .u32 (to : Int), .int .i64 5, .string body, .bool sm] 27)) := (Below.refl _ _).alloc (Nat.le_refl _) _
  have HW := Lib.hid (fun (n : Nat) => And.intro (StAt.below h (below_drewN hb0 n) : CK.At _ R V s) (below_drewN hb0 n))
  obtain ⟨⟨_, _, _, _, _, _, _, _, c8, _, c10, c11⟩, _⟩ := cl_cells h
  obtain ⟨A, cap, hvq, hnc, hcm, _⟩ := Slab.form (cl_asked h)
  obtain ⟨vi, vo, vq, vr⟩ := V
  simp only at hvq c8
  subst hvq
  by_cases hall : s.ending ∧ to = s.bye ∧ s.asked = []
  · have HT := Lib.hid (show s.take ⟨id, to, 5, body, sm⟩ = ({ s with closed := true }, 0) by unfold Cl.take; rw [if_neg (by rw [hb]; decide), if_neg (by simp), if_pos rfl]; exact if_pos hall)
    have HSH := Lib.hid (fun (n : Nat) => cl_put (HW.out n).1 (s2 := { s with closed := true }) ((Turn.refl (fun g => g = R) _).set (.inl rfl) 2 (.bool false)) (heap_setCell_same _ R 2 _ _ (.bool false) (HW.out n).1.blk) (fun a => by cases a) rfl rfl rfl)
    have HSC := Lib.hid (fun (n : Nat) => And.intro (cl_cells (HW.out n).1).1.2.2.1 ((cl_cells (HW.out n).1).2 2))
    obtain ⟨he, ht, hl⟩ := hall
    rw [he] at c11
    rw [← ht] at c10
    have hz : s.asked.length = 0 := by rw [hl]; rfl
    have c8' := c8
    rw [hz] at c8'
    clear h hb hb0 c8 hz hl ht he hnc
    go_enter Tryd.func76, Tryd.ntmps76
    go_wp2
    go_big_quiet (fail)
    have c2 := (HSC.out nq).1
    have f2 := (HSC.out nq).2
    go_wp2
    go_ret
    rw [HT.out]
    exact EK.chain (HW.out nq).2 (Turn.refl _ _) (fun g hg => .inl hg) (HSH.out nq) _
  · have HT := Lib.hid (show s.take ⟨id, to, 5, body, sm⟩ = (s, 284) by unfold Cl.take; rw [if_neg (by rw [hb]; decide), if_neg (by simp), if_pos rfl]; exact if_neg hall)
    by_cases he : s.ending = true
    · rw [he] at c11
      by_cases ht : to = s.bye
      · have hl : 0 < s.asked.length := by
          rcases Nat.eq_zero_or_pos s.asked.length with e | e
          · exact absurd ⟨he, ht, List.eq_nil_of_length_eq_zero e⟩ hall
          · exact e
        have hlb : ((s.asked.length : Int) == 0) = false := by rw [beq_eq_false_iff_ne]; omega
        rw [← ht] at c10
        clear h hb hb0 hall he ht hl
        go_enter Tryd.func76, Tryd.ntmps76
        go_wp2
        go_big_quiet (fail)
        go_wp2
        go_ret
        rw [HT.out]
        exact ⟨_, rfl, (HW.out nq).1, Turn.of_below (HW.out nq).2, fun g hg => .inl hg⟩
      · have htb : ((to : Int) == (s.bye : Int)) = false := by rw [beq_eq_false_iff_ne]; omega
        clear h hb hb0 hall he ht
        go_enter Tryd.func76, Tryd.ntmps76
        go_wp2
        go_big_quiet (fail)
        go_wp2
        go_ret
        rw [HT.out]
        exact ⟨_, rfl, (HW.out nq).1, Turn.of_below (HW.out nq).2, fun g hg => .inl hg⟩
    · have he2 : s.ending = false := by simpa using he
      rw [he2] at c11
      clear h hb hb0 hall he he2
      go_enter Tryd.func76, Tryd.ntmps76
      go_wp2
      go_big_quiet (fail)
      go_wp2
      go_ret
      rw [HT.out]
      exact ⟨_, rfl, (HW.out nq).1, Turn.of_below (HW.out nq).2, fun g hg => .inl hg⟩
set_option maxRecDepth 20000 in
set_option maxHeartbeats 4000000 in
/-- whatever else -/
theorem clLater0_c (R : Nat) (V : CV) (s : Cl) (hb : s.began = true) (id to : Nat) (kind : Int) (body : ByteArray) (sm : Bool) (h4 : kind ≠ 4) (h5 : kind ≠ 5) (h6 : kind ≠ 6) (w : World) (h : CK.At w R V s) :
    Calls Tryd.prog 76 #[.pointer (some ⟨R, 0, none⟩), .agg #[.int .u32 (id : Int), .int .u32 (to : Int), .int .i64 kind, .string body, .bool sm]] w (CK.Post R V s w (s.take ⟨id, to, kind, body, sm⟩).1 (.int .i64 ((s.take ⟨id, to, kind, body, sm⟩).2 : Int))) := by
  have HT := Lib.hid (show s.take ⟨id, to, kind, body, sm⟩ = (s, 284) by unfold Cl.take; rw [if_neg (by rw [hb]; decide), if_neg h4, if_neg h5, if_neg h6])
  have HF := Lib.hid (EK.post_below h ((Below.refl _ _).alloc (Nat.le_refl _) (.cells #[.int .u32 (id : Int), .int .u32 (to : Int), .int .i64 kind, .string body, .bool sm] 27)) (.int .i64 284))
  have k4 : (kind == 4) = false := by rw [beq_eq_false_iff_ne]; exact h4
  have k5 : (kind == 5) = false := by rw [beq_eq_false_iff_ne]; exact h5
  have k6 : (kind == 6) = false := by rw [beq_eq_false_iff_ne]; exact h6
  clear h hb h4 h5 h6
  go_enter Tryd.func76, Tryd.ntmps76
  go_wp2
  go_ret
  rw [HT.out]
  exact HF.out
end Go.Proofs.YtkpickojeghppaaDoor
namespace Go.Proofs.YtkpickojeghppaaDoor
open Go.RowKit
theorem digitsB_list (n : Nat) : (digitsB n).toList = Lib.itoa (n : Int) := by rw [ByteArray.toList_eq]; rfl
theorem atoi_w (body : ByteArray) (hs : body.size ≤ 281474976710656) (w : World) (hT : WTabs w) : Calls Tryd.prog 80 #[.string body] w fun e w' => Below w.heap.size w w' ∧
    match Lib.atoiAll body.data.toList with
    | .ok v => e = .returned (.tuple #[.int .i64 v, .nilIface])
    | _ => ∃ v N, e = .returned (.tuple #[.int .i64 v, .iface 145 (.pointer (some ⟨N, 0, none⟩))]) := by
  rcases h : Lib.atoiAll body.data.toList with v | _ | _
  · refine (Tryd.strconv_Atoi_ok body (by omega) v h w).mono ?_
    rintro e w' ⟨he, hw⟩
    refine ⟨?_, he⟩
    rcases hw with rfl | ⟨t, rfl⟩
    · exact Below.refl _ _
    · exact Lib.bytesWorld_below _ _ _
  · obtain ⟨t, p, hv⟩ := hT.syn
    refine (Tryd.strconv_Atoi_no_var body hs (by rw [h]; trivial) t p w hv).mono ?_
    rintro e w' ⟨N, he, _, _, hb⟩
    exact ⟨hb, _, N, he⟩
  · obtain ⟨t, p, hv⟩ := hT.rng
    refine (Tryd.strconv_Atoi_range_var body hs h t p w hv).mono ?_
    rintro e w' ⟨N, he, _, _, hb⟩
    exact ⟨hb, _, N, he⟩
set_option maxRecDepth 20000 in
set_option maxHeartbeats 4000000 in
theorem clLater6_c (R : Nat) (V : CV) (s : Cl) (hb : s.began = true) (id to : Nat) (body : ByteArray) (hs : body.size ≤ 281474976710656) (sm : Bool) (w : World) (h : CK.X w R V s) :
    Calls Tryd.prog 76 #[.pointer (some ⟨R, 0, none⟩), .agg #[.int .u32 (id : Int), .int .u32 (to : Int), .int .i64 6, .string body, .bool sm]] w (CK.Post R V s w (s.take ⟨id, to, 6, body, sm⟩).1 (.int .i64 ((s.take ⟨id, to, 6, body, sm⟩).2 : Int))) := by
  have ht6 : s.take ⟨id, to, 6, body, sm⟩ = (s, match Lib.atoiAll body.data.toList with
    | .ok n => if 1 ≤ n ∧ n ≤ 999 ∧ Lib.itoa n = body.data.toList then n.toNat else 284
    | _ => 284) := by unfold Cl.take; rw [if_neg (by rw [hb]; decide), if_neg (by simp), if_neg (by simp), if_pos rfl]; try rfl
  have hb0 : Below w.heap.size w (w.alloc (.cells #[.int .u32 (id : Int), .int .u32 (to : Int), .int .i64 6, .string body, .bool sm] 27)) := (Below.refl _ _).alloc (Nat.le_refl _) _
  have HB0 := Lib.hid hb0
  have HA := Lib.hid (atoi_w body hs _ (h.tabs.below hb0))
  have HI := Lib.hid (fun (n : Nat) (hn : n ≤ 999) (w2 : World) (hb : Below w.heap.size w w2) => itoa_w n (by omega) w2 (h.tabs.below hb))
  have hx : (w.alloc (.cells #[.int .u32 (id : Int), .int .u32 (to : Int), .int .i64 6, .string body, .bool sm] 27)).cell? ⟨w.heap.size, 3, none⟩ = some (.string body) := cell_of_row _ _ 3 _ _ _ (heap_alloc_new w _)
  have hz : w.heap.size < (w.alloc (.cells #[.int .u32 (id : Int), .int .u32 (to : Int), .int .i64 6, .string body, .bool sm] 27)).heap.size := by simp
  have HX := Lib.hid hx
  have H := Lib.hid h.at_
  rw [ht6]
  clear h hb hb0 ht6 hx
  suffices key : ∀ rv : Nat, Hid ((match Lib.atoiAll body.data.toList with
    | .ok n => if 1 ≤ n ∧ n ≤ 999 ∧ Lib.itoa n = body.data.toList then n.toNat else 284
    | _ => 284) = rv) → Calls Tryd.prog 76 #[.pointer (some ⟨R, 0, none⟩), .agg #[.int .u32 (id : Int), .int .u32 (to : Int), .int .i64 6, .string body, .bool sm]] w (CK.Post R V s w s (.int .i64 (rv : Int))) from key _ (Lib.hid rfl)
  intro rv HRV
  rcases ha : Lib.atoiAll body.data.toList with v | _ | _
  · rw [ha] at HA
    by_cases h1 : 1 ≤ v ∧ v ≤ 999
    · obtain ⟨h1, h2⟩ := h1
      obtain ⟨n, rfl⟩ := Int.eq_ofNat_of_zero_le (show 0 ≤ v by omega)
      have HN := Lib.hid (show n ≤ 999 by omega)
      by_cases heq : Lib.itoa (n : Int) = body.data.toList
      · have HT := Lib.hid (show rv = n by rw [← HRV.out, ha]; exact (if_pos ⟨h1, h2, heq⟩).trans rfl)
        have hcmp : ((digitsB n).toList == body.toList) = true := by rw [beq_iff_eq, digitsB_list, heq, ByteArray.toList_eq]
        clear ha heq
        go_enter Tryd.func76, Tryd.ntmps76
        go_wp2_with fail
        refine HA.out.mono ?_; rintro e w1 ⟨hb1, rfl⟩
        have HB1 := Lib.hid (HB0.out.trans (hb1.mono (by simp)))
        have x3 := cell_below hb1 HX.out
        clear hb1
        have k3 := cell_regrown x3
        go_wp2
        refine wp_region_quiet_below (by kernel_rfl) (by kernel_rfl) ?_
        repeat (go_big_quiet_step ((go_at_call 74; exact Calls.regrown_of (HI.out n HN.out _ (HB1.out.trans ((below_regrown w1 _ _).mono HB1.out.size))))))
        refine wpQuiet_nil ?_
        intro _ hw'
        obtain ⟨⟨dq, osq⟩, hw''⟩ := hw'
        subst hw''
        go_wp2
        go_ret
        rw [HT.out]
        exact EK.post_below H.out (HB1.out.trans ((below_regrown w1 _ _).mono HB1.out.size)) _
      · have HT := Lib.hid (show rv = 284 by rw [← HRV.out, ha]; exact if_neg (fun h => heq h.2.2))
        have hcmp : ((digitsB n).toList == body.toList) = false := by rw [beq_eq_false_iff_ne, digitsB_list, ByteArray.toList_eq]; exact heq
        clear ha heq
        go_enter Tryd.func76, Tryd.ntmps76
        go_wp2_with fail
        refine HA.out.mono ?_; rintro e w1 ⟨hb1, rfl⟩
        have HB1 := Lib.hid (HB0.out.trans (hb1.mono (by simp)))
        have x3 := cell_below hb1 HX.out
        clear hb1
        have k3 := cell_regrown x3
        go_wp2
        refine wp_region_quiet_below (by kernel_rfl) (by kernel_rfl) ?_
        repeat (go_big_quiet_step ((go_at_call 74; exact Calls.regrown_of (HI.out n HN.out _ (HB1.out.trans ((below_regrown w1 _ _).mono HB1.out.size))))))
        refine wpQuiet_nil ?_
        intro _ hw'
        obtain ⟨⟨dq, osq⟩, hw''⟩ := hw'
        subst hw''
        go_wp2
        go_ret
        rw [HT.out]
        exact EK.post_below H.out (HB1.out.trans ((below_regrown w1 _ _).mono HB1.out.size)) _
    · have HT := Lib.hid (show rv = 284 by rw [← HRV.out, ha]; exact if_neg (fun h => h1 ⟨h.1, h.2.1⟩))
      by_cases h2 : 1 ≤ v
      · have hd2 : decide (v ≤ 999) = false := decide_eq_false (by omega)
        clear ha h1
        go_enter Tryd.func76, Tryd.ntmps76
        go_wp2_with fail
        refine HA.out.mono ?_; rintro e w1 ⟨hb1, rfl⟩
        have HB1 := Lib.hid (HB0.out.trans (hb1.mono (by simp)))
        clear hb1
        go_wp2
        go_big_quiet (fail)
        go_wp2
        go_ret
        rw [HT.out]
        exact EK.post_below H.out (below_drewN HB1.out _) _
      · have hd1 : decide (1 ≤ v) = false := decide_eq_false h2
        clear ha h1 h2
        go_enter Tryd.func76, Tryd.ntmps76
        go_wp2_with fail
        refine HA.out.mono ?_; rintro e w1 ⟨hb1, rfl⟩
        have HB1 := Lib.hid (HB0.out.trans (hb1.mono (by simp)))
        clear hb1
        go_wp2
        go_big_quiet (fail)
        go_wp2
        go_ret
        rw [HT.out]
        exact EK.post_below H.out (below_drewN HB1.out _) _
  · rw [ha] at HA
    have HT := Lib.hid (show rv = 284 by rw [← HRV.out, ha])
    clear ha
    go_enter Tryd.func76, Tryd.ntmps76
    go_wp2_with fail
    refine HA.out.mono ?_; rintro e w1 ⟨hb1, v, N, rfl⟩
    have HB1 := Lib.hid (HB0.out.trans (hb1.mono (by simp)))
    clear hb1
    go_wp2
    go_big_quiet (fail)
    go_wp2
    go_ret
    rw [HT.out]
    exact EK.post_below H.out (below_drewN HB1.out _) _
  · rw [ha] at HA
    have HT := Lib.hid (show rv = 284 by rw [← HRV.out, ha])
    clear ha
    go_enter Tryd.func76, Tryd.ntmps76
    go_wp2_with fail
    refine HA.out.mono ?_; rintro e w1 ⟨hb1, v, N, rfl⟩
    have HB1 := Lib.hid (HB0.out.trans (hb1.mono (by simp)))
    clear hb1
    go_wp2
    go_big_quiet (fail)
    go_wp2
    go_ret
    rw [HT.out]
    exact EK.post_below H.out (below_drewN HB1.out _) _
theorem clLater_c (R : Nat) (V : CV) (s : Cl) (hb : s.began = true) (hok : s.Ok) (hcl : s.came.length ≤ 1099511627776) (m : WMsg) (hs : m.body.size ≤ 281474976710656) (w : World) (h : CK.X w R V s) :
    Calls Tryd.prog 76 #[.pointer (some ⟨R, 0, none⟩), .agg (msgV m).toArray] w (CK.Post R V s w (s.take m).1 (.int .i64 ((s.take m).2 : Int))) := by
  obtain ⟨id, to, kind, body, sm⟩ := m
  by_cases h4 : kind = 4
  · subst h4; exact clLater4_c R V s hb id to body sm (by have := hok.asked; omega) hcl w h.at_
  · by_cases h5 : kind = 5
    · subst h5; exact clLater5_c R V s hb id to body sm w h.at_
    · by_cases h6 : kind = 6
      · subst h6; exact clLater6_c R V s hb id to body hs sm w h
      · exact clLater0_c R V s hb id to kind body sm h4 h5 h6 w h.at_
end Go.Proofs.YtkpickojeghppaaDoor
