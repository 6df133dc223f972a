/- The walks of leaves, fail, Out, Open, Why. Conditions: what goes out is shorter than 2 to the 38. -/
import Derived.Test.YtkpickojeghppaaDoorWsv
namespace Go.Proofs.YtkpickojeghppaaDoor
open Go.RowKit
/-- a server's cells, as the walk reads them -/
theorem SvAt.cells {w : World} {R : Nat} {vi vo vh : Value} {s : Sv} (h : SvAt w R vi vo vh s) :
    (w.cell? ⟨R, 0, none⟩ = some vi ∧ w.cell? ⟨R, 1, none⟩ = some vo ∧ w.cell? ⟨R, 2, none⟩ = some (.bool (!s.closed)) ∧ w.cell? ⟨R, 3, none⟩ = some (.bool s.ending) ∧ w.cell? ⟨R, 4, none⟩ = some (.int .i64 (s.why : Int)) ∧ w.cell? ⟨R, 5, none⟩ = some (.bool s.sums) ∧ w.cell? ⟨R, 6, none⟩ = some (takeV R s.began) ∧ w.cell? ⟨R, 7, none⟩ = some vh ∧ w.cell? ⟨R, 8, none⟩ = some (.int .u32 (s.last : Int)) ∧ w.cell? ⟨R, 9, none⟩ = some (.int .u32 (s.bye : Int)) ∧ w.cell? ⟨R, 10, none⟩ = some (.bool s.ending)) ∧ ∀ i : Nat, w.frozen? ⟨R, i, none⟩ = false :=
  ⟨⟨cell_of_row _ _ _ _ _ _ h.blk, cell_of_row _ _ _ _ _ _ h.blk, cell_of_row _ _ _ _ _ _ h.blk, cell_of_row _ _ _ _ _ _ h.blk, cell_of_row _ _ _ _ _ _ h.blk, cell_of_row _ _ _ _ _ _ h.blk, cell_of_row _ _ _ _ _ _ h.blk, cell_of_row _ _ _ _ _ _ h.blk, cell_of_row _ _ _ _ _ _ h.blk, cell_of_row _ _ _ _ _ _ h.blk, cell_of_row _ _ _ _ _ _ h.blk⟩, fun _ => frozen_of_row _ _ _ _ _ h.blk⟩
theorem svPost_same {w : World} {R : Nat} {vi vo vh : Value} {s : Sv} (h : SvAt w R vi vo vh s) (r : Value) : SvPost R vi vo vh w s r (.returned r) w :=
  ⟨vi, vo, vh, rfl, h, Turn.refl _ _, fun _ hg => .inl hg⟩
set_option maxRecDepth 20000 in
set_option maxHeartbeats 4000000 in
theorem leaves_c (R : Nat) (vi vo vh : Value) (s : Sv) (hlen : s.out.length ≤ 274877906944) (hby : s.bye < 4294967296) (w : World) (h : SvAt w R vi vo vh s) :
    Calls Tryd.prog 63 #[.pointer (some ⟨R, 0, none⟩)] w (SvPost R vi vo vh w s.parts (.tuple #[])) := by
  obtain ⟨⟨_, _, c2, _, _, _, _, c7, _, c9, c10⟩, hf⟩ := h.cells
  have f2 := hf 2
  obtain ⟨A, cap, hvh, _, _, _⟩ := Slab.form h.sheld
  have H := Lib.hid h
  by_cases hall : (s.ending && s.held.isEmpty && !s.closed) = true
  · have HP := Lib.hid (show s.parts = { s.send (msgTo s.bye 5 ⟨#[]⟩) with closed := true } from if_pos hall)
    simp only [Bool.and_eq_true, Bool.not_eq_true'] at hall
    obtain ⟨⟨he, hl⟩, hc⟩ := hall
    have hl0 : s.held = [] := List.isEmpty_iff.1 hl
    rw [hl0] at hvh
    subst hvh
    rw [he] at c10
    rw [hc] at c2
    have hdrew : ∀ n : Nat, SvAt (w.drewN n) R vi vo (.slice A ([] : List (Nat × ByteArray × Bool)).length cap) s := fun n => h.below (below_drewN' w n)
    have HD := Lib.hid hdrew
    have HSEND := Lib.hid (fun (n : Nat) => show Calls Tryd.prog 62 #[.pointer (some ⟨R, 0, none⟩), .agg #[.int .u32 0, .int .u32 (s.bye : Int), .int .i64 5, .string ⟨#[]⟩, .bool false]] (w.drewN n) _ from
      send_c R (svCells R vi vo (.slice A ([] : List (Nat × ByteArray × Bool)).length cap) s) 101 vo s.out s.sums (msgTo s.bye 5 ⟨#[]⟩) (msgTo_ok hby (by decide) (by decide) (by decide)) hlen _ (hdrew n).blk rfl rfl (hdrew n).sout h.nR.2.1)
    clear h hf hl hl0 hc he hdrew
    go_enter Tryd.func63, Tryd.ntmps63
    go_wp2
    go_region_with (go_at_call 62; refine (HSEND.out _).mono ?_; rintro e w2 hp; obtain ⟨vi', vo', vh', rfl, hsv, htn, hnw⟩ := (HD.out _).sent hp; obtain ⟨⟨_, _, d2, _⟩, df⟩ := hsv.cells; have d2f := df 2; have HSV := Lib.hid hsv; have HTN := Lib.hid (show Turn (SvF R vi vo (.slice A ([] : List (Nat × ByteArray × Bool)).length cap)) w w2 from (Turn.of_below (below_drewN' w _)).trans (htn.weak (fun g hg => .inl hg))); have HNW := Lib.hid (show ∀ g, SvF R vi' vo' vh' g → SvF R vi vo (.slice A ([] : List (Nat × ByteArray × Bool)).length cap) g ∨ w.heap.size ≤ g from fun g hg => hnw g hg); clear hsv htn hnw hp df)
    all_goals (
      go_wp2
      go_end0
      rw [HP.out]
      exact ⟨vi', vo', vh', rfl, HSV.out.put ((Turn.refl (fun g => g = R) w2).set (.inl rfl) 2 (.bool false)) (heap_setCell_same _ _ 2 _ _ (.bool false) HSV.out.blk) (fun a => by cases a) rfl rfl, HTN.out.set (.inl (.inl rfl)) 2 _, HNW.out⟩)
  · have HP := Lib.hid (show s.parts = s from if_neg hall)
    have hn : ((s.held.length : Int) == 0) = s.held.isEmpty := by
      cases s.held with
      | nil => rfl
      | cons a l => rw [List.length_cons]; simp; omega
    subst hvh
    generalize s.held.length = n at *
    obtain ⟨emp, hemp⟩ : ∃ b, s.held.isEmpty = b := ⟨_, rfl⟩
    rw [hemp] at hn hall
    obtain ⟨en, hen⟩ : ∃ b, s.ending = b := ⟨_, rfl⟩
    rw [hen] at c10 hall
    obtain ⟨cl, hcl⟩ : ∃ b, s.closed = b := ⟨_, rfl⟩
    rw [hcl] at c2 hall
    clear h hf hemp hen hcl
    have fin : SvPost R vi vo (.slice A n cap) w s.parts (.tuple #[]) (.returned (.tuple #[])) w := by rw [HP.out]; exact svPost_same H.out _
    have FIN := Lib.hid fin
    clear fin
    cases en with
    | false =>
      go_enter Tryd.func63, Tryd.ntmps63
      go_wp2
      go_end0
      exact FIN.out
    | true =>
      cases emp with
      | false =>
        go_enter Tryd.func63, Tryd.ntmps63
        go_wp2
        go_end0
        exact FIN.out
      | true =>
        cases cl with
        | false => exact absurd rfl hall
        | true =>
          go_enter Tryd.func63, Tryd.ntmps63
          go_wp2
          go_end0
          exact FIN.out
end Go.Proofs.YtkpickojeghppaaDoor
