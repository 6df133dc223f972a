/- The variables that the walks read, and a server beside them; the walk of fail. Conditions: none. -/
import Derived.Test.YtkpickojeghppaaDoorServ
import Derived.Test.YtkpickojeghppaaDoorShelf
import Derived.Lib.AppendIntMem
namespace Go.Proofs.YtkpickojeghppaaDoor
open Go.RowKit
theorem var_same {w w' : World} {name : String} {g : Nat} {cs : Array Value} (hg : Tryd.prog.globalNamed name = some g) (hb : w'.heap[g]? = w.heap[g]?) (h : w.var? Tryd.prog name = some cs) : w'.var? Tryd.prog name = some cs := by
  unfold World.var? at h ⊢
  rw [hg, Option.bind_some] at h ⊢
  rw [hb]; exact h
structure WTabs (w : World) : Prop where
  pow : Lib.TabIs Tryd.prog w "internal/strconv.uint64pow10" .u64 Lib.pow10Tab
  syn : ∃ tp p, w.var? Tryd.prog "strconv.ErrSyntax" = some #[.iface tp p]
  rng : ∃ tp p, w.var? Tryd.prog "strconv.ErrRange" = some #[.iface tp p]
  size : 5 ≤ w.heap.size
theorem WTabs.turn {w w' : World} {S : Nat → Prop} (h : WTabs w) (ht : Turn S w w') (hs : ∀ g, S g → 5 ≤ g) : WTabs w' := by
  have hz := h.size
  have hb : ∀ g, g < 5 → w'.heap[g]? = w.heap[g]? := fun g hg => ht.block g (by omega) (fun e => by have := hs g e; omega)
  obtain ⟨t1, p1, h1⟩ := h.syn
  obtain ⟨t2, p2, h2⟩ := h.rng
  refine ⟨var_same (g := 0) (by kernel_rfl) (hb _ (by decide)) h.pow, ⟨t1, p1, var_same (g := 1) (by kernel_rfl) (hb _ (by decide)) h1⟩, ⟨t2, p2, var_same (g := 2) (by kernel_rfl) (hb _ (by decide)) h2⟩, Nat.le_trans hz ht.size⟩
theorem WTabs.below {w w' : World} (h : WTabs w) (hb : Below w.heap.size w w') : WTabs w' := h.turn (Turn.of_below (S := fun _ => False) hb) (fun _ e => e.elim)
/-- a server beside the variables -/
structure SvX (w : World) (R : Nat) (vi vo vh : Value) (s : Sv) : Prop where
  sv : SvAt w R vi vo vh s
  tabs : WTabs w
  own : ∀ g, SvF R vi vo vh g → 5 ≤ g
theorem SvX.of {w w' : World} {R : Nat} {vi vo vh vi' vo' vh' : Value} {s s2 : Sv} (h : SvX w R vi vo vh s) (hp : SvAt w' R vi' vo' vh' s2) (ht : Turn (SvF R vi vo vh) w w') (hn : ∀ g, SvF R vi' vo' vh' g → SvF R vi vo vh g ∨ w.heap.size ≤ g) : SvX w' R vi' vo' vh' s2 :=
  ⟨hp, h.tabs.turn ht h.own, fun g hg => (hn g hg).elim (h.own g) (fun e => Nat.le_trans h.tabs.size e)⟩
theorem SvX.below {w w' : World} {R : Nat} {vi vo vh : Value} {s : Sv} (h : SvX w R vi vo vh s) (hb : Below w.heap.size w w') : SvX w' R vi vo vh s :=
  h.of (h.sv.below hb) (Turn.of_below hb) (fun _ hg => .inl hg)
/-- two steps, one behind the other -/
theorem SvPost.seq {R : Nat} {vi vo vh vi' vo' vh' : Value} {w w1 : World} {s2 : Sv} {r : Value} {e : Ending} {w2 : World} (ht : Turn (SvF R vi vo vh) w w1) (hn : ∀ g, SvF R vi' vo' vh' g → SvF R vi vo vh g ∨ w.heap.size ≤ g) (hp : SvPost R vi' vo' vh' w1 s2 r e w2) : SvPost R vi vo vh w s2 r e w2 := by
  obtain ⟨a, b, c, he, h, ht2, hn2⟩ := hp
  exact ⟨a, b, c, he, h, ht.trans (ht2.weak hn), fun g hg => (hn2 g hg).elim (hn g) (fun e => .inr (Nat.le_trans ht.size e))⟩
theorem itoa_w (n : Nat) (hn : n ≤ 9223372036854775807) (w : World) (hT : WTabs w) : Calls Tryd.prog 74 #[.int .i64 (n : Int)] w fun e w' => e = .returned (.string (digitsB n)) ∧ Below w.heap.size w w' :=
  (Tryd.strconv_Itoa (n : Int) (by omega) (by omega) w hT.pow).mono (fun e w' ⟨h1, k, os, h2⟩ => ⟨h1, by rw [h2]; exact Lib.below_grow _ _ (Nat.le_refl _) _ _⟩)
theorem decDigits_len : ∀ (k n : Nat), n < 10 ^ (k + 1) → (Lib.decDigits n).length ≤ k + 1
  | 0, n, h => by rw [Lib.decDigits, dif_pos (by simpa using h)]; simp
  | k + 1, n, h => by
    rw [Lib.decDigits]
    split
    · simp
    · rw [List.length_append]
      have := decDigits_len k (n / 10) (by rw [Nat.pow_succ] at h; omega)
      simp; omega
theorem digitsB_size (n : Nat) (hn : n ≤ 999999) : (digitsB n).size ≤ 6 := by
  show (Lib.itoa (n : Int)).toArray.size ≤ 6
  unfold Lib.itoa
  rw [if_neg (by omega)]
  have := decDigits_len 5 ((n : Int).toNat) (by omega)
  simpa using this
/-- nothing is held any more, it is closed -/
theorem SvAt.shut {w : World} {R : Nat} {vi vo vh : Value} {s : Sv} (h : SvAt w R vi vo vh s) (e : Nat) :
    SvAt (((w.setCell ⟨R, 2, none⟩ (.bool false)).setCell ⟨R, 4, none⟩ (.int .i64 (e : Int))).setCell ⟨R, 7, none⟩ (.slice none 0 0)) R vi vo (.slice none 0 0) { s with closed := true, why := e, held := [] } ∧
    Turn (fun g => g = R) w (((w.setCell ⟨R, 2, none⟩ (.bool false)).setCell ⟨R, 4, none⟩ (.int .i64 (e : Int))).setCell ⟨R, 7, none⟩ (.slice none 0 0)) := by
  have ht := (((Turn.refl (fun g => g = R) w).set (g := R) (.inl rfl) 2 (.bool false)).set (g := R) (.inl rfl) 4 (.int .i64 (e : Int))).set (g := R) (.inl rfl) 7 (.slice none 0 0)
  refine ⟨⟨heap_setCell_same _ R 7 _ _ (.slice none 0 0) (heap_setCell_same _ R 4 _ _ (.int .i64 (e : Int)) (heap_setCell_same _ R 2 _ _ (.bool false) h.blk)), (fun a => by cases a), Slab.turn h.sout ht (fun g hg e => h.nR.2.1 (by rw [← e]; exact hg)), slab_nil _ _, ⟨h.nR.1, h.nR.2.1, by simp [Value.ownBlock]⟩, fun g hg => ⟨by simp [Value.ownBlock], (h.ap g hg).2⟩, (fun g hg => by cases hg), fun g hg => Nat.lt_of_lt_of_le (h.lti g hg) ht.size⟩, ht⟩
def Sv.failed (s : Sv) (e : Nat) : Sv := if e = 0 then s else s.fail e
set_option maxRecDepth 20000 in
set_option maxHeartbeats 4000000 in
theorem fail_c (R : Nat) (vi vo vh : Value) (s : Sv) (e : Nat) (he : e ≤ 999999) (hlen : s.out.length ≤ 274877906944) (w : World) (h : SvX w R vi vo vh s) :
    Calls Tryd.prog 55 #[.pointer (some ⟨R, 0, none⟩), .int .i64 (e : Int)] w (SvPost R vi vo vh w (s.failed e) (.tuple #[])) := by
  by_cases h0 : e = 0
  · have HF := Lib.hid (show s.failed e = s from if_pos h0)
    have H := Lib.hid h
    subst h0
    clear h
    go_enter Tryd.func55, Tryd.ntmps55
    go_wp2
    go_end0
    rw [HF.out]
    exact svPost_same H.out.sv _
  · have HF := Lib.hid (show s.failed e = { s.send (msgTo 0 6 (digitsB e)) with closed := true, why := e, held := [] } from if_neg h0)
    have heb : ((e : Int) == 0) = false := by rw [beq_eq_false_iff_ne]; omega
    have hsz := digitsB_size e he
    have hRl := h.sv.lt
    have HI := Lib.hid (fun (w2 : World) (hb : Below w.heap.size w w2) => itoa_w e (by omega) w2 (h.tabs.below hb))
    have HSEND := Lib.hid (fun (w2 : World) (hb : Below w.heap.size w w2) => show Calls Tryd.prog 62 #[.pointer (some ⟨R, 0, none⟩), .agg #[.int .u32 0, .int .u32 0, .int .i64 6, .string (digitsB e), .bool false]] w2 _ from
      send_c R (svCells R vi vo vh s) 101 vo s.out s.sums (msgTo 0 6 (digitsB e)) (msgTo_ok (by decide) (by decide) (by decide) (by omega)) hlen w2 (h.sv.below hb).blk rfl rfl (h.sv.below hb).sout h.sv.nR.2.1)
    have HD := Lib.hid (fun (w2 : World) (hb : Below w.heap.size w w2) => h.sv.below hb)
    clear h hlen hsz
    go_enter Tryd.func55, Tryd.ntmps55
    go_wp2
    go_region_with (first
      | (go_at_call 74; refine (HI.out _ (by repeat (first | with_reducible exact Below.refl _ _ | with_reducible refine below_drewN ?_ _ | with_reducible refine Below.drew ?_ | with_reducible refine Below.alloc ?_ (by first | (simp; done) | (simp; omega)) _ | with_reducible refine Below.setCell ?_ (by first | (simp; done) | (simp; omega)) _))).mono ?_; rintro ee w1 ⟨rfl, hb1⟩; have HB1 := Lib.hid (show Below w.heap.size w w1 from (show Below w.heap.size w _ from (by repeat (first | with_reducible exact Below.refl _ _ | with_reducible refine below_drewN ?_ _ | with_reducible refine Below.drew ?_ | with_reducible refine Below.alloc ?_ (by first | (simp; done) | (simp; omega)) _ | with_reducible refine Below.setCell ?_ (by first | (simp; done) | (simp; omega)) _))).trans (hb1.mono (by simp))); clear hb1)
      | (go_at_call 62; refine (HSEND.out _ ((HB1.out).trans (Below.mono (by repeat (first | with_reducible exact Below.refl _ _ | with_reducible refine below_drewN ?_ _ | with_reducible refine Below.drew ?_ | with_reducible refine Below.alloc ?_ (by first | (simp; done) | (simp; omega)) _ | with_reducible refine Below.setCell ?_ (by first | (simp; done) | (simp; omega)) _)) HB1.out.size))).mono ?_; rintro ee w2 hp; obtain ⟨vi', vo', vh', rfl, hsv, htn, hnw⟩ := (HD.out _ ((HB1.out).trans (Below.mono (by repeat (first | with_reducible exact Below.refl _ _ | with_reducible refine below_drewN ?_ _ | with_reducible refine Below.drew ?_ | with_reducible refine Below.alloc ?_ (by first | (simp; done) | (simp; omega)) _ | with_reducible refine Below.setCell ?_ (by first | (simp; done) | (simp; omega)) _)) HB1.out.size))).sent hp; obtain ⟨⟨_, _, d2, _, d4, _, _, d7, _⟩, df⟩ := hsv.cells; have f2 := df 2; have f4 := df 4; have f7 := df 7; have HSV := Lib.hid hsv; have HTN := Lib.hid (show Turn (SvF R vi vo vh) w w2 from (Turn.of_below ((HB1.out).trans (Below.mono (by repeat (first | with_reducible exact Below.refl _ _ | with_reducible refine below_drewN ?_ _ | with_reducible refine Below.drew ?_ | with_reducible refine Below.alloc ?_ (by first | (simp; done) | (simp; omega)) _ | with_reducible refine Below.setCell ?_ (by first | (simp; done) | (simp; omega)) _)) HB1.out.size))).trans (htn.weak (fun g hg => .inl hg))); have HNW := Lib.hid (show ∀ g, SvF R vi' vo' vh' g → SvF R vi vo vh g ∨ w.heap.size ≤ g from fun g hg => (hnw g hg).imp (fun x => x) (fun h => Nat.le_trans ((HB1.out).trans (Below.mono (by repeat (first | with_reducible exact Below.refl _ _ | with_reducible refine below_drewN ?_ _ | with_reducible refine Below.drew ?_ | with_reducible refine Below.alloc ?_ (by first | (simp; done) | (simp; omega)) _ | with_reducible refine Below.setCell ?_ (by first | (simp; done) | (simp; omega)) _)) HB1.out.size)).size h)); clear hsv htn hnw hp df))
    all_goals (
      go_wp2
      go_end0
      rw [HF.out]
      have hs := HSV.out.shut e
      exact ⟨vi', vo', _, rfl, hs.1, HTN.out.trans (hs.2.weak (fun g hg => .inl (.inl hg))), fun g hg => HNW.out g (by
        rcases hg with hg | hg | hg | hg
        · exact .inl hg
        · exact .inr (.inl hg)
        · exact .inr (.inr (.inl hg))
        · cases hg)⟩)
end Go.Proofs.YtkpickojeghppaaDoor
