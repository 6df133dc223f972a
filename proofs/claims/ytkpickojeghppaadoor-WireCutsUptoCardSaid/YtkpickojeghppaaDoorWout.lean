/- The walks of Out, Open, Why, Next (the server's). Conditions: none. -/
import Derived.Test.YtkpickojeghppaaDoorWlater
namespace Go.Proofs.YtkpickojeghppaaDoor
open Go.RowKit
set_option maxHeartbeats 2000000 in
theorem svOpen_c (R : Nat) (vi vo vh : Value) (s : Sv) (w : World) (h : SvAt w R vi vo vh s) :
    Calls Tryd.prog 32 #[.pointer (some ⟨R, 0, none⟩)] w fun e w' => e = .returned (.bool (!s.closed)) ∧ w' = w := by
  obtain ⟨⟨_, _, c2, _⟩, _⟩ := h.cells
  generalize s.closed = cl at *
  clear h
  go_enter Tryd.func32, Tryd.ntmps32
  go_wp2
  go_ret
  exact ⟨rfl, rfl⟩
set_option maxHeartbeats 2000000 in
theorem svWhy_c (R : Nat) (vi vo vh : Value) (s : Sv) (w : World) (h : SvAt w R vi vo vh s) :
    Calls Tryd.prog 33 #[.pointer (some ⟨R, 0, none⟩)] w fun e w' => e = .returned (.int .i64 (s.why : Int)) ∧ w' = w := by
  obtain ⟨⟨_, _, _, _, c4, _⟩, _⟩ := h.cells
  generalize s.why = y at *
  clear h
  go_enter Tryd.func33, Tryd.ntmps33
  go_wp2
  go_ret
  exact ⟨rfl, rfl⟩
/-- Out: what went out; it is the caller's -/
def OutPost (R : Nat) (vi vo vh : Value) (s : Sv) (w : World) (e : Ending) (w' : World) : Prop :=
  e = .returned vo ∧ SvAt w' R vi (.slice none 0 0) vh { s with out := [] } ∧ BSlab w' vo s.out ∧ Turn (fun g => g = R) w w'
set_option maxHeartbeats 2000000 in
theorem svOut_c (R : Nat) (vi vo vh : Value) (s : Sv) (w : World) (h : SvAt w R vi vo vh s) :
    Calls Tryd.prog 30 #[.pointer (some ⟨R, 0, none⟩)] w (OutPost R vi vo vh s w) := by
  have HT := Lib.hid (taken_c R (svCells R vi vo vh s) 101 vo w h.blk rfl)
  have H := Lib.hid h
  clear h
  go_enter Tryd.func30, Tryd.ntmps30
  go_wp2_with fail
  refine HT.out.mono ?_; rintro e w1 ⟨rfl, hb, ht⟩
  have HB := Lib.hid (And.intro hb ht)
  clear hb ht
  go_wp2
  go_ret
  obtain ⟨hb, ht⟩ := HB.out
  refine ⟨rfl, ⟨hb, fun a b => Slab.turn (H.out.sin a b) ht (fun g hg e => H.out.nR.1 (by rw [← e]; exact hg)), bslab_nil _, Slab.turn H.out.sheld ht (fun g hg e => H.out.nR.2.2 (by rw [← e]; exact hg)), ⟨H.out.nR.1, by simp [Value.ownBlock], H.out.nR.2.2⟩, (fun g hg => by cases hg), H.out.ap2, fun g hg => Nat.lt_of_lt_of_le (H.out.lti g hg) ht.size⟩, Slab.turn H.out.sout ht (fun g hg e => H.out.nR.2.1 (by rw [← e]; exact hg)), ht⟩
/-- the place of the first that was not told -/
def tellAt : List (Nat × ByteArray × Bool) → Option Nat
  | [] => none
  | (_, _, false) :: _ => some 0
  | (_, _, true) :: r => (tellAt r).map (· + 1)
def tellI (l : List (Nat × ByteArray × Bool)) : Int := match tellAt l with | none => -1 | some k => (k : Int)
set_option maxHeartbeats 2000000 in
theorem untold_c (i : Nat) (b : ByteArray) (t : Bool) (w : World) : Calls Tryd.prog 61 #[.agg #[.int .u32 (i : Int), .string b, .bool t]] w fun e w' => e = .returned (.bool (!t)) ∧ Below w.heap.size w w' := by
  go_enter Tryd.func61, Tryd.ntmps61
  go_wp2
  go_ret
  exact ⟨rfl, (Below.refl _ _).alloc (Nat.le_refl _) _⟩
theorem tellAt_drop (l : List (Nat × ByteArray × Bool)) (k : Nat) (h : k < l.length) (ht : (l[k]).2.2 = true) (h0 : tellAt l = (tellAt (l.drop k)).map (· + k)) : tellAt l = (tellAt (l.drop (k + 1))).map (· + (k + 1)) := by
  rw [h0, List.drop_eq_getElem_cons h]
  obtain ⟨i, b, t, hx⟩ : ∃ i b t, l[k] = (i, b, t) := ⟨_, _, _, rfl⟩
  rw [hx] at ht ⊢
  simp only at ht
  subst ht
  simp only [tellAt, Option.map_map]
  cases tellAt (l.drop (k + 1)) with
  | none => rfl
  | some j => simp; omega
theorem tellAt_here (l : List (Nat × ByteArray × Bool)) (k : Nat) (h : k < l.length) (ht : (l[k]).2.2 = false) (h0 : tellAt l = (tellAt (l.drop k)).map (· + k)) : tellAt l = some k := by
  rw [h0, List.drop_eq_getElem_cons h]
  obtain ⟨i, b, t, hx⟩ : ∃ i b t, l[k] = (i, b, t) := ⟨_, _, _, rfl⟩
  rw [hx] at ht ⊢
  simp only at ht
  subst ht
  simp [tellAt]
theorem heldV_get (l : List (Nat × ByteArray × Bool)) : ∀ (k : Nat) (h : k < l.length) (j : Nat), j < 3 → (heldV l)[k * 3 + j]? = (askV l[k])[j]? := by
  induction l with
  | nil => intro k h; simp at h
  | cons x r ih =>
    intro k h j hj
    have hx : (askV x).length = 3 := rfl
    cases k with
    | zero =>
      show (askV x ++ heldV r)[0 * 3 + j]? = _
      rw [List.getElem?_append_left (by omega)]
      simp
    | succ k =>
      show (askV x ++ heldV r)[(k + 1) * 3 + j]? = _
      rw [List.getElem?_append_right (by omega), hx]
      have := ih k (by simpa using h) j hj
      rw [show (k + 1) * 3 + j - 3 = k * 3 + j by omega, this]
      rfl
set_option maxRecDepth 20000 in
set_option maxHeartbeats 4000000 in
theorem index_c (v : Value) (l : List (Nat × ByteArray × Bool)) (hl : l.length ≤ 1000) (w : World) (h : Slab w 3 v l.length (heldV l)) :
    Calls Tryd.prog 60 #[v, .func (.func 61) #[] #[]] w fun e w' => e = .returned (.int .i64 (tellI l)) ∧ Below w.heap.size w w' := by
  obtain ⟨A, cap, rfl, hnc, hcm, hf⟩ := h.form
  have HF := Lib.hid hf
  clear h hf
  go_enter Tryd.func60, Tryd.ntmps60
  go_wp2
  go_loopw [5, 8] (fun _ i wr => ∃ (k : Nat), k ≤ l.length ∧ i = .int .i64 k ∧ Hid (tellAt l = (tellAt (l.drop k)).map (· + k)) ∧ Hid (Below w.heap.size w wr)) (fun _ i _ => l.length - (intOf i).toNat)
  case atStart => exact ⟨0, Nat.zero_le _, rfl, Lib.hid (by simp), Lib.hid (Below.refl _ _)⟩
  case round =>
    obtain ⟨k, hk, rfl, HK, HB⟩ := hrel
    by_cases hlt : k < l.length
    · obtain ⟨G, o, rfl, hr⟩ : ∃ G o, A = some ⟨G, o, none⟩ ∧ wr.rangeAt G o (heldV l) := by
        rcases HF.out with ⟨rfl, h0, _⟩ | ⟨G, o, rfl, _, _, hr, _⟩
        · omega
        · exact ⟨G, o, rfl, fun j u hj => cell_below HB.out (hr j u hj)⟩
      have c0 : wr.cell? ⟨G, o + k * 3, none⟩ = some (.int .u32 ((l[k]).1 : Int)) := hr (k * 3 + 0) _ (heldV_get l k hlt 0 (by omega))
      have c1 : wr.cell? ⟨G, o + k * 3 + 1, none⟩ = some (.string (l[k]).2.1) := hr (k * 3 + 1) _ (heldV_get l k hlt 1 (by omega))
      have c2 : wr.cell? ⟨G, o + k * 3 + 2, none⟩ = some (.bool (l[k]).2.2) := hr (k * 3 + 2) _ (heldV_get l k hlt 2 (by omega))
      have HD := Lib.hid (fun ht => tellAt_drop l k hlt ht HK.out)
      have HH := Lib.hid (fun ht => tellAt_here l k hlt ht HK.out)
      clear hr HK
      generalize l[k] = x at *
      obtain ⟨i, b, t⟩ := x
      simp only at c0 c1 c2
      have hcall := untold_c i b t wr
      have HBw := HB
      go_wp2_with fail
      clear c0 c1 c2
      refine hcall.mono ?_; rintro e w2 ⟨rfl, hb2⟩
      have HB2 := Lib.hid (HBw.out.trans (hb2.mono HBw.out.size))
      clear hb2 hcall
      cases t with
      | true =>
        have HK2 := Lib.hid (HD.out rfl)
        clear HD HH
        go_wp2
        go_roundw
        case rel => exact ⟨k + 1, by omega, by go_num, HK2, HB2⟩
        case measure => simp [intOf]; omega
      | false =>
        have HK2 := Lib.hid (HH.out rfl)
        clear HD HH
        go_wp2
        go_ret
        exact ⟨by unfold tellI; rw [HK2.out]; rfl, HB2.out⟩
    · obtain rfl : k = l.length := by omega
      have HK2 := Lib.hid (show tellAt l = none by rw [HK.out, List.drop_length]; rfl)
      clear HK
      go_wp2
      go_ret
      exact ⟨by unfold tellI; rw [HK2.out]; rfl, HB.out⟩
end Go.Proofs.YtkpickojeghppaaDoor
