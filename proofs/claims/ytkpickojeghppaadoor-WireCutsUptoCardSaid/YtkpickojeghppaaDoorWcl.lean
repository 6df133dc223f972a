/- A client's end in memory; the walks of welcome, fits, NewClient. Conditions: what goes out is shorter than 2 to the 38. -/
import Derived.Test.YtkpickojeghppaaDoorWst
import Derived.Test.YtkpickojeghppaaDoorWfd
namespace Go.Proofs.YtkpickojeghppaaDoor
open Go.RowKit
/-- a struct beside the variables -/
structure EK.X {V S : Type} (K : EK V S) (w : World) (R : Nat) (v : V) (s : S) : Prop where
  at_ : K.At w R v s
  tabs : WTabs w
  own : ∀ g, K.F R v s g → 5 ≤ g
theorem EK.X.of {V S : Type} {K : EK V S} {w w' : World} {R : Nat} {v v2 : V} {s s2 : S} (h : K.X w R v s) (hp : K.At w' R v2 s2) (ht : Turn (K.F R v s) w w') (hn : ∀ g, K.F R v2 s2 g → K.F R v s g ∨ w.heap.size ≤ g) : K.X w' R v2 s2 :=
  ⟨hp, h.tabs.turn ht h.own, fun g hg => (hn g hg).elim (h.own g) (fun e => Nat.le_trans h.tabs.size e)⟩
theorem EK.X.below {V S : Type} {K : EK V S} {w w' : World} {R : Nat} {v : V} {s : S} (h : K.X w R v s) (hb : Below w.heap.size w w') : K.X w' R v s :=
  h.of (StAt.below h.at_ hb) (Turn.of_below hb) (fun _ hg => .inl hg)
/-- the slices of a client -/
structure CV where
  i : Value
  o : Value
  q : Value
  r : Value
def takeCV (R : Nat) (b : Bool) : Value := .func (.func (if b then 76 else 67)) #[.pointer (some ⟨R, 0, none⟩)] #[]
def cameV (l : List (Nat × ByteArray)) : List Value := l.flatMap fun x => [.int .u32 (x.1 : Int), .string x.2]
def clCells (R : Nat) (V : CV) (s : Cl) : Array Value :=
  #[V.i, V.o, .bool (!s.closed), .bool false, .int .i64 (s.why : Int), .bool s.sums, takeCV R s.began, .int .u32 (s.id : Int), V.q, V.r, .int .u32 (s.bye : Int), .bool s.ending]
def clParts (V : CV) (s : Cl) : List Part :=
  [⟨1, V.i, s.inp.length, bytesV s.inp, s.closed = false⟩, ⟨1, V.o, s.out.length, bytesV s.out, True⟩, ⟨1, V.q, s.asked.length, numsV s.asked, True⟩, ⟨2, V.r, s.came.length, cameV s.came, True⟩]
def CK : EK CV Cl := ⟨118, clCells, clParts⟩
section
variable {w : World} {R : Nat} {V : CV} {s : Cl}
theorem cl_cells (h : CK.At w R V s) :
    (w.cell? ⟨R, 0, none⟩ = some V.i ∧ w.cell? ⟨R, 1, none⟩ = some V.o ∧ w.cell? ⟨R, 2, none⟩ = some (.bool (!s.closed)) ∧ w.cell? ⟨R, 3, none⟩ = some (.bool false) ∧ w.cell? ⟨R, 4, none⟩ = some (.int .i64 (s.why : Int)) ∧ w.cell? ⟨R, 5, none⟩ = some (.bool s.sums) ∧ w.cell? ⟨R, 6, none⟩ = some (takeCV R s.began) ∧ w.cell? ⟨R, 7, none⟩ = some (.int .u32 (s.id : Int)) ∧ w.cell? ⟨R, 8, none⟩ = some V.q ∧ w.cell? ⟨R, 9, none⟩ = some V.r ∧ w.cell? ⟨R, 10, none⟩ = some (.int .u32 (s.bye : Int)) ∧ w.cell? ⟨R, 11, none⟩ = some (.bool s.ending)) ∧ ∀ i : Nat, w.frozen? ⟨R, i, none⟩ = false :=
  ⟨⟨cell_of_row _ _ _ _ _ _ h.blk, cell_of_row _ _ _ _ _ _ h.blk, cell_of_row _ _ _ _ _ _ h.blk, cell_of_row _ _ _ _ _ _ h.blk, cell_of_row _ _ _ _ _ _ h.blk, cell_of_row _ _ _ _ _ _ h.blk, cell_of_row _ _ _ _ _ _ h.blk, cell_of_row _ _ _ _ _ _ h.blk, cell_of_row _ _ _ _ _ _ h.blk, cell_of_row _ _ _ _ _ _ h.blk, cell_of_row _ _ _ _ _ _ h.blk, cell_of_row _ _ _ _ _ _ h.blk⟩, fun _ => frozen_of_row _ _ _ _ _ h.blk⟩
theorem cl_in (h : CK.At w R V s) (hc : s.closed = false) : BSlab w V.i s.inp := h.slab _ (.head _) hc
theorem cl_out (h : CK.At w R V s) : BSlab w V.o s.out := h.slab _ (.tail _ (.head _)) trivial
theorem cl_asked (h : CK.At w R V s) : Slab w 1 V.q s.asked.length (numsV s.asked) := h.slab _ (.tail _ (.tail _ (.head _))) trivial
theorem cl_came (h : CK.At w R V s) : Slab w 2 V.r s.came.length (cameV s.came) := h.slab _ (.tail _ (.tail _ (.tail _ (.head _)))) trivial
/-- only cells beside the slices have turned -/
theorem cl_put (h : CK.At w R V s) {w' : World} {s2 : Cl} (ht : Turn (fun g => g = R) w w') (hb : w'.heap[R]? = some (.cells (clCells R V s2) 118 (0, 0)))
    (hi : s2.closed = false → s.closed = false ∧ s2.inp = s.inp) (ho : s2.out = s.out) (hq : s2.asked = s.asked) (hr : s2.came = s.came) :
    CK.At w' R V s2 ∧ Turn (CK.F R V s) w w' ∧ ∀ g, CK.F R V s2 g → CK.F R V s g ∨ w.heap.size ≤ g := by
  refine EK.put h ht hb rfl (fun p hp hon => ?_)
  simp only [CK, clParts, List.mem_cons, List.not_mem_nil, or_false] at hp
  rcases hp with rfl | rfl | rfl | rfl
  · obtain ⟨a, b⟩ := hi hon
    exact ⟨_, .head _, a, rfl, rfl, by rw [b], by rw [b]⟩
  · exact ⟨_, .tail _ (.head _), trivial, rfl, rfl, by rw [ho], by rw [ho]⟩
  · exact ⟨_, .tail _ (.tail _ (.head _)), trivial, rfl, rfl, by rw [hq], by rw [hq]⟩
  · exact ⟨_, .tail _ (.tail _ (.tail _ (.head _))), trivial, rfl, rfl, by rw [hr], by rw [hr]⟩
theorem cl_F {R : Nat} {V : CV} {s : Cl} (s2 : Cl) {g : Nat} (h : CK.F R V s g) : CK.F R V s2 g := stF_map R (ps := clParts V s2) (qs := clParts V s) rfl g h
/-- a message has gone out -/
theorem cl_sent (h : CK.At w R V s) {m : WMsg} {e : Ending} {w' : World} (hp : SendPost R (clCells R V s) 118 V.o s.out (m.summed s.sums) w e w') :
    CK.Post R V s w (s.send m) (.int .i64 (packE (m.summed s.sums) : Int)) e w' := by
  obtain ⟨vo', he, hs, hb, ht, hn⟩ := hp
  obtain ⟨a, b, c⟩ := EK.repl (K := CK) (v2 := { V with o := vo' }) (s2 := s.send m) [⟨1, V.i, s.inp.length, bytesV s.inp, s.closed = false⟩] [⟨1, V.q, s.asked.length, numsV s.asked, True⟩, ⟨2, V.r, s.came.length, cameV s.came, True⟩]
    ⟨1, V.o, s.out.length, bytesV s.out, True⟩ ⟨1, vo', (s.send m).out.length, bytesV (s.send m).out, True⟩ rfl rfl h ht hb (fun _ => hs) (fun g hg => Slab.lt hs hg) hn
  exact ⟨{ V with o := vo' }, he, a, b, c⟩
end
def Cl.take (s : Cl) (m : WMsg) : Cl × Nat :=
  if s.began = false then
    (if m.kind ≠ 2 ∨ m.to ≠ 1 then (s, 284) else ({ s with began := true }, 0))
  else if m.kind = 4 then (match s.asked with
    | [] => (s, 284)
    | x :: r => if m.to = x then ({ s with came := s.came ++ [(m.to, m.body)], asked := r }, 0) else (s, 284))
  else if m.kind = 5 then (if s.ending ∧ m.to = s.bye ∧ s.asked = [] then ({ s with closed := true }, 0) else (s, 284))
  else if m.kind = 6 then (s, match Lib.atoiAll m.body.data.toList with
    | .ok n => if 1 ≤ n ∧ n ≤ 999 ∧ Lib.itoa n = m.body.data.toList then n.toNat else 284
    | _ => 284)
  else (s, 284)
set_option maxRecDepth 20000 in
set_option maxHeartbeats 4000000 in
theorem welcome_c (R : Nat) (V : CV) (s : Cl) (hb : s.began = false) (hc : s.closed = false) (m : WMsg) (w : World) (h : CK.At w R V s) :
    Calls Tryd.prog 67 #[.pointer (some ⟨R, 0, none⟩), .agg (msgV m).toArray] w (CK.Post R V s w (s.take m).1 (.int .i64 ((s.take m).2 : Int))) := by
  obtain ⟨id, to, kind, body, sm⟩ := m
  show Calls Tryd.prog 67 #[.pointer (some ⟨R, 0, none⟩), .agg #[.int .u32 (id : Int), .int .u32 (to : Int), .int .i64 kind, .string body, .bool sm]] w _
  have hRl := h.ltR
  have hb0 : Below w.heap.size w (w.alloc (.cells #[.int .u32 (id : Int), .int .u32 (to : Int), .int .i64 kind, .string body, .bool sm] 27)) := (Below.refl _ _).alloc (Nat.le_refl _) _
  have HD := Lib.hid (fun (n : Nat) => And.intro (StAt.below h (below_drewN hb0 n) : CK.At _ R V s) (below_drewN hb0 n))
  have HX := Lib.hid (heap_alloc_new w (.cells #[.int .u32 (id : Int), .int .u32 (to : Int), .int .i64 kind, .string body, .bool sm] 27))
  have g6 : w.cell? ⟨R, 6, none⟩ = some (takeCV R s.began) := (cl_cells h).1.2.2.2.2.2.2.1
  have e6 := (cl_cells h).2 6
  by_cases hk : kind = 2
  · subst hk
    have ht0 : (w.alloc (.cells #[.int .u32 (id : Int), .int .u32 (to : Int), .int .i64 2, .string body, .bool sm] 27)).cell? ⟨w.heap.size, 1, none⟩ = some (.int .u32 (to : Int)) := cell_of_row _ _ 1 _ _ _ (heap_alloc_new w _)
    by_cases ht1 : to = 1
    · subst ht1
      have HT := Lib.hid (show s.take ⟨id, 1, 2, body, sm⟩ = ({ s with began := true }, 0) by unfold Cl.take; rw [if_pos hb]; rfl)
      have HF := Lib.hid (fun (n : Nat) => show CK.Post R V s w { s with began := true } (.int .i64 0) (.returned (.int .i64 0)) (((w.setCell ⟨R, 6, none⟩ (takeCV R true)).alloc (.cells #[.int .u32 (id : Int), .int .u32 ((1 : Nat) : Int), .int .i64 2, .string body, .bool sm] 27)).drewN n) from by
        obtain ⟨a, b, c⟩ := cl_put h (s2 := { s with began := true }) ((Turn.refl (fun g => g = R) w).set (g := R) (.inl rfl) 6 (takeCV R true)) (heap_setCell_same _ R 6 _ _ (takeCV R true) h.blk) (fun _ => ⟨hc, rfl⟩) rfl rfl rfl
        have hbn : Below (w.setCell ⟨R, 6, none⟩ (takeCV R true)).heap.size (w.setCell ⟨R, 6, none⟩ (takeCV R true)) (((w.setCell ⟨R, 6, none⟩ (takeCV R true)).alloc (.cells #[.int .u32 (id : Int), .int .u32 ((1 : Nat) : Int), .int .i64 2, .string body, .bool sm] 27)).drewN n) := below_drewN ((Below.refl _ _).alloc (Nat.le_refl _) _) n
        exact ⟨V, rfl, StAt.below a hbn, b.trans (Turn.of_below hbn), c⟩)
      clear h hb hc hb0
      go_enter Tryd.func67, Tryd.ntmps67
      go_wp2
      go_ret
      rw [HT.out]
      exact HF.out 0
    · have HT := Lib.hid (show s.take ⟨id, to, 2, body, sm⟩ = (s, 284) by unfold Cl.take; rw [if_pos hb, if_pos (.inr ht1)])
      have ht2 : ((to : Int) != 1) = true := by rw [bne_iff_ne]; omega
      clear h hb hc hb0 g6 e6 ht1
      go_enter Tryd.func67, Tryd.ntmps67
      go_wp2
      go_ret
      rw [HT.out]
      exact ⟨V, rfl, (HD.out 0).1, Turn.of_below (HD.out 0).2, fun g hg => .inl hg⟩
  · have HT := Lib.hid (show s.take ⟨id, to, kind, body, sm⟩ = (s, 284) by unfold Cl.take; rw [if_pos hb, if_pos (.inl hk)])
    have hkb : (kind != 2) = true := by rw [bne_iff_ne]; exact hk
    clear h hb hc hb0 g6 e6
    go_enter Tryd.func67, Tryd.ntmps67
    go_wp2
    go_ret
    rw [HT.out]
    exact ⟨V, rfl, (HD.out 0).1, Turn.of_below (HD.out 0).2, fun g hg => .inl hg⟩
/-- a message of so many bytes may go out -/
theorem fits_c (R : Nat) (V : CV) (s : Cl) (body : ByteArray) (hbs : body.size ≤ 9223372036854770000) (w : World) (h : CK.At w R V s) :
    Calls Tryd.prog 71 #[.pointer (some ⟨R, 0, none⟩), .string body] w fun e w' => e = .returned (.bool (decide (24 + body.size + (if s.sums then 4 else 0) ≤ 131072))) ∧ w = w' := by
  have g5 : w.cell? ⟨R, 5, none⟩ = some (.bool s.sums) := (cl_cells h).1.2.2.2.2.2.1
  clear h
  cases hs : s.sums with
  | true =>
    rw [hs] at g5
    by_cases hle : 24 + body.size + 4 ≤ 131072
    · skip
      go_enter Tryd.func71, Tryd.ntmps71
      go_wp2
      go_ret
      exact ⟨ret_bool (by simp; omega), rfl⟩
    · skip
      go_enter Tryd.func71, Tryd.ntmps71
      go_wp2
      go_ret
      exact ⟨ret_bool (by simp; omega), rfl⟩
  | false =>
    rw [hs] at g5
    by_cases hle : 24 + body.size ≤ 131072
    · skip
      go_enter Tryd.func71, Tryd.ntmps71
      go_wp2
      go_ret
      exact ⟨ret_bool (by simp; omega), rfl⟩
    · skip
      go_enter Tryd.func71, Tryd.ntmps71
      go_wp2
      go_ret
      exact ⟨ret_bool (by simp; omega), rfl⟩
set_option maxRecDepth 20000 in
set_option maxHeartbeats 4000000 in
theorem newClient_c (sums : Bool) (w : World) : Calls Tryd.prog 34 #[.bool sums] w fun e w' => ∃ V, e = .returned (.pointer (some ⟨w.heap.size, 0, none⟩)) ∧ CK.At w' w.heap.size V (cl0 sums) ∧ Below w.heap.size w w' ∧ ∀ g, CK.F w.heap.size V (cl0 sums) g → w.heap.size ≤ g := by
  have hAt : ∀ W, Below w.heap.size w W → W.heap[w.heap.size]? = some (.cells (clCells w.heap.size ⟨.slice none 0 0, .slice none 0 0, .slice none 0 0, .slice none 0 0⟩ { inp := [], out := [], closed := false, why := 0, sums := sums, began := false, ending := false, bye := 0, id := 2, asked := [], came := [] }) 118 (0, 0)) → CK.At W w.heap.size ⟨.slice none 0 0, .slice none 0 0, .slice none 0 0, .slice none 0 0⟩ { inp := [], out := [], closed := false, why := 0, sums := sums, began := false, ending := false, bye := 0, id := 2, asked := [], came := [] } := fun W hb hx => by
    refine ⟨hx, fun p hp _ => ?_, fun p hp => ?_, ?_, fun p hp g hg => ?_⟩
    · simp only [CK, clParts, List.mem_cons, List.not_mem_nil, or_false] at hp
      rcases hp with rfl | rfl | rfl | rfl <;> exact slab_nil _ _
    · simp only [CK, clParts, List.mem_cons, List.not_mem_nil, or_false] at hp
      rcases hp with rfl | rfl | rfl | rfl <;> (intro e; cases e)
    · simp [CK, clParts, apart, Value.ownBlock]
    · simp only [CK, clParts, List.mem_cons, List.not_mem_nil, or_false] at hp
      rcases hp with rfl | rfl | rfl | rfl <;> cases hg
  have HA := Lib.hid hAt
  clear hAt
  go_enter Tryd.func34, Tryd.ntmps34
  go_wp2_with fail
  have h0 := HA.out _ ((Below.refl _ _).alloc (Nat.le_refl _) _) (heap_alloc_new w _)
  refine (send_c w.heap.size _ 118 (.slice none 0 0) [] sums ⟨1, 0, 1, ⟨#[100, 111, 99, 107, 101, 116]⟩, false⟩ ⟨by decide, by decide, by decide, by decide, by decide⟩ (by simp) _ h0.blk rfl rfl (cl_out h0) (by simp [Value.ownBlock])).mono ?_
  rintro e w2 hp
  obtain ⟨V, rfl, h2, ht, hn⟩ := cl_sent h0 hp
  have HF := Lib.hid (And.intro h2 (And.intro ((Turn.of_below ((Below.refl w.heap.size w).alloc (Nat.le_refl _) _) : Turn (fun g => w.heap.size ≤ g) w _).trans (ht.weak (fun g hg => .inr (by
    rcases hg with hg | ⟨p, hp, hg⟩
    · exact Nat.le_of_eq hg.symm
    · simp only [CK, clParts, List.mem_cons, List.not_mem_nil, or_false] at hp
      rcases hp with rfl | rfl | rfl | rfl <;> cases hg)))) hn))
  clear h0 hp h2 ht hn
  go_wp2
  go_ret
  obtain ⟨h2, ht, hn⟩ := HF.out
  refine ⟨V, rfl, h2, ht.below (fun _ h => h) (Nat.le_refl _), fun g hg => ?_⟩
  rcases hn g hg with h | h
  · rcases h with h | ⟨p, hp, h⟩
    · exact Nat.le_of_eq h.symm
    · simp only [CK, clParts, List.mem_cons, List.not_mem_nil, or_false] at hp
      rcases hp with rfl | rfl | rfl | rfl <;> cases h
  · simp at h; omega
end Go.Proofs.YtkpickojeghppaaDoor
