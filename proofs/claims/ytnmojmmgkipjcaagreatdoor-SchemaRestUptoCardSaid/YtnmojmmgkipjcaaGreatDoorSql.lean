/- The walk of the law SchemaRest. Conditions: what comes in is of bulk at most 2 to the 20; the tables of package utf8 lie as their texts lay them; the cells of strconv's table are numbers of their kind. -/
import Derived.Test.YtnmojmmgkipjcaaGreatDoorSqp
import Derived.Test.YtnmojmmgkipjcaaGreatDoorSito
import Derived.Test.YtnmojmmgkipjcaaGreatDoorDocb
import Derived.Test.YtnmojmmgkipjcaaGreatDoorSqr
namespace Go.Proofs.YtnmojmmgkipjcaaGreatDoor
open Go.RowKit
theorem al3 {W : World} {a b c : Obj} {n : Nat} (hn : W.heap.size = n) : ((((W.alloc a).alloc b).alloc c).drew.heap[n]? = some a ∧ (((W.alloc a).alloc b).alloc c).drew.heap[n + 1]? = some b) ∧ (((W.alloc a).alloc b).alloc c).drew.heap[n + 1 + 1]? = some c := by
  subst hn
  have h1 : Below (W.alloc a).heap.size (W.alloc a) ((W.alloc a).alloc b) := (Below.refl _ _).alloc (Nat.le_refl _) _
  have h2 : Below ((W.alloc a).alloc b).heap.size ((W.alloc a).alloc b) (((W.alloc a).alloc b).alloc c) := (Below.refl _ _).alloc (Nat.le_refl _) _
  have s1 : (W.alloc a).heap.size = W.heap.size + 1 := World.size_alloc _ _
  have s2 : ((W.alloc a).alloc b).heap.size = W.heap.size + 1 + 1 := by rw [World.size_alloc, World.size_alloc]
  have n1 := heap_alloc_new (W.alloc a) b
  have n2 := heap_alloc_new ((W.alloc a).alloc b) c
  rw [s1] at n1
  rw [s2] at n2
  exact ⟨⟨(h2.block _ (by omega)).trans ((h1.block _ (by omega)).trans (heap_alloc_new W a)), (h2.block _ (by omega)).trans n1⟩, n2⟩
theorem only_rep {W : World} {p : JV} {cs : List Value} {g1 g2 : Nat} {T T' : TypeId} (hp : Rep W (fun _ => True) p cs) (h1 : W.heap[g1]? = some (.cells #[.string ⟨#[112, 114, 111, 112, 101, 114, 116, 105, 101, 115]⟩, .string ⟨#[97, 100, 100, 105, 116, 105, 111, 110, 97, 108]⟩] T (0, 0))) (h2 : W.heap[g2]? = some (.cells (cs ++ ([.int .i64 1, .int .i64 0, .string ⟨#[]⟩, .slice none 0 0, .slice none 0 0] : List Value)).toArray T' (0, 0))) :
    Rep W (fun _ => True) (onlyJ p) [.int .i64 6, .int .i64 0, .string ⟨#[]⟩, .slice (some ⟨g1, 0, none⟩) 2 2, .slice (some ⟨g2, 0, none⟩) 2 2] := by
  have hf : Rep W (fun _ => True) jfalse [.int .i64 1, .int .i64 0, .string ⟨#[]⟩, .slice none 0 0, .slice none 0 0] := rep_mk.2 ⟨by omega, by omega, Nat.zero_le _, none, 0, none, 0, rfl, ⟨Nat.le_refl _, Nat.zero_le _⟩, ⟨Nat.le_refl _, Nat.zero_le _⟩, .inl rfl, .inl rfl⟩
  refine rep_mk.2 ⟨by omega, by omega, Nat.zero_le _, some ⟨g1, 0, none⟩, 2, some ⟨g2, 0, none⟩, 2, rfl, ⟨Nat.le_refl _, by unfold maxLen; omega⟩, ⟨Nat.le_refl _, by unfold maxLen; omega⟩, ?_, ?_⟩
  · refine .inr ⟨g1, 0, rfl, trivial, fun j v hj => ?_⟩
    rw [Nat.zero_add, cell_of_row _ _ _ _ _ _ h1]
    rw [← hj]
    simp
  · have h3 := items_block [(p, cs), (jfalse, [.int .i64 1, .int .i64 0, .string ⟨#[]⟩, .slice none 0 0, .slice none 0 0])] (ok := fun _ => True) (B := g2) (T := T') (fun q hq => by
      rcases List.mem_cons.1 hq with rfl | hq
      · exact hp
      · rw [List.mem_singleton.1 hq]; exact hf) (by simpa using h2)
    exact h3.kept (fun b _ _ => ⟨trivial, rfl⟩)
set_option maxRecDepth 20000 in
set_option maxHeartbeats 8000000 in
theorem schemaRest_c (p v x : JV) (nm : ByteArray) (cs ds es : List Value) (w : World) (hr : Rep w (fun _ => True) p cs) (hs : Rep w (fun _ => True) v ds) (hv : Rep w (fun _ => True) x es) (hbp : p.bulk ≤ 1048576) (hbv : v.bulk ≤ 1048576) (hbx : x.bulk ≤ 1048576) (hbn : nm.size ≤ 1048576) (hT : Lib.Utf8Tabs 0 1 w) (hU : TabU w) :
    Calls Tryz.prog 4 #[.agg (cs ++ (ds ++ (.string nm :: es))).toArray] w fun e w' => e = .returned (.bool true) ∧ Below w.heap.size w w' := by
  have hr0 := hr
  have hs0 := hs
  have hv0 := hv
  obtain ⟨an, am, ai, ac, rfl⟩ := hr.form
  obtain ⟨bn, bm, bi, bc, rfl⟩ := hs.form
  obtain ⟨cn, cm, ci, cc, rfl⟩ := hv.form
  simp only [List.cons_append, List.nil_append]
  have HBK := Lib.hid (show p.bulk ≤ 1048576 ∧ v.bulk ≤ 1048576 ∧ x.bulk ≤ 1048576 ∧ nm.size ≤ 1048576 from ⟨hbp, hbv, hbx, hbn⟩)
  have HR0 := Lib.hid (show Rep w (fun _ => True) p [.int .i64 p.kind, .int .i64 p.int, .string p.text, .slice an p.names.length am, .slice ai p.items.length ac] ∧ Rep w (fun _ => True) v [.int .i64 v.kind, .int .i64 v.int, .string v.text, .slice bn v.names.length bm, .slice bi v.items.length bc] ∧ Rep w (fun _ => True) x [.int .i64 x.kind, .int .i64 x.int, .string x.text, .slice cn x.names.length cm, .slice ci x.items.length cc] ∧ Lib.Utf8Tabs 0 1 w ∧ TabU w from ⟨hr0, hs0, hv0, hT, hU⟩)
  have hX := heap_alloc_new w (.cells #[.int .i64 p.kind, .int .i64 p.int, .string p.text, .slice an p.names.length am, .slice ai p.items.length ac, .int .i64 v.kind, .int .i64 v.int, .string v.text, .slice bn v.names.length bm, .slice bi v.items.length bc, .string nm, .int .i64 x.kind, .int .i64 x.int, .string x.text, .slice cn x.names.length cm, .slice ci x.items.length cc] 36)
  have HSS := Lib.hid (fun (W' : World) (hW : Below (w.alloc (.cells #[.int .i64 p.kind, .int .i64 p.int, .string p.text, .slice an p.names.length am, .slice ai p.items.length ac, .int .i64 v.kind, .int .i64 v.int, .string v.text, .slice bn v.names.length bm, .slice bi v.items.length bc, .string nm, .int .i64 x.kind, .int .i64 x.int, .string x.text, .slice cn x.names.length cm, .slice ci x.items.length cc] 36)).heap.size (w.alloc (.cells #[.int .i64 p.kind, .int .i64 p.int, .string p.text, .slice an p.names.length am, .slice ai p.items.length ac, .int .i64 v.kind, .int .i64 v.int, .string v.text, .slice bn v.names.length bm, .slice bi v.items.length bc, .string nm, .int .i64 x.kind, .int .i64 x.int, .string x.text, .slice cn x.names.length cm, .slice ci x.items.length cc] 36)) W') => (show (fun w' => w'.cell? ⟨w.heap.size, 0, none⟩ = some (.int .i64 p.kind) ∧ w'.cell? ⟨w.heap.size, 1, none⟩ = some (.int .i64 p.int) ∧ w'.cell? ⟨w.heap.size, 2, none⟩ = some (.string p.text) ∧ w'.cell? ⟨w.heap.size, 3, none⟩ = some (.slice an p.names.length am) ∧ w'.cell? ⟨w.heap.size, 4, none⟩ = some (.slice ai p.items.length ac) ∧ w'.cell? ⟨w.heap.size, 5, none⟩ = some (.int .i64 v.kind) ∧ w'.cell? ⟨w.heap.size, 6, none⟩ = some (.int .i64 v.int) ∧ w'.cell? ⟨w.heap.size, 7, none⟩ = some (.string v.text) ∧ w'.cell? ⟨w.heap.size, 8, none⟩ = some (.slice bn v.names.length bm) ∧ w'.cell? ⟨w.heap.size, 9, none⟩ = some (.slice bi v.items.length bc) ∧ w'.cell? ⟨w.heap.size, 10, none⟩ = some (.string nm) ∧ w'.cell? ⟨w.heap.size, 11, none⟩ = some (.int .i64 x.kind) ∧ w'.cell? ⟨w.heap.size, 12, none⟩ = some (.int .i64 x.int) ∧ w'.cell? ⟨w.heap.size, 13, none⟩ = some (.string x.text) ∧ w'.cell? ⟨w.heap.size, 14, none⟩ = some (.slice cn x.names.length cm) ∧ w'.cell? ⟨w.heap.size, 15, none⟩ = some (.slice ci x.items.length cc)) W' from by
    have hc := (hW.block w.heap.size (by simp)).trans hX
    exact ⟨cell_of_row _ _ 0 _ _ _ hc, cell_of_row _ _ 1 _ _ _ hc, cell_of_row _ _ 2 _ _ _ hc, cell_of_row _ _ 3 _ _ _ hc, cell_of_row _ _ 4 _ _ _ hc, cell_of_row _ _ 5 _ _ _ hc, cell_of_row _ _ 6 _ _ _ hc, cell_of_row _ _ 7 _ _ _ hc, cell_of_row _ _ 8 _ _ _ hc, cell_of_row _ _ 9 _ _ _ hc, cell_of_row _ _ 10 _ _ _ hc, cell_of_row _ _ 11 _ _ _ hc, cell_of_row _ _ 12 _ _ _ hc, cell_of_row _ _ 13 _ _ _ hc, cell_of_row _ _ 14 _ _ _ hc, cell_of_row _ _ 15 _ _ _ hc⟩))
  clear hr hr0 hs hs0 hv hv0 hbp hbv hbx hbn hT hU hX
  go_enter Tryz.func4, Tryz.ntmps4
  go_wp2_with fail
  go_cut [3, 4, 5, 6] from 22 to 29 (fun q3 q4 q5 q6 wx => ∃ A B C : Nat, q3 = .pointer (some ⟨A, 0, none⟩) ∧ q4 = .pointer (some ⟨B, 0, none⟩) ∧ q5 = .string nm ∧ q6 = .pointer (some ⟨C, 0, none⟩) ∧ Hid (wx.heap[A]? = some (.cells #[.int .i64 p.kind, .int .i64 p.int, .string p.text, .slice an p.names.length am, .slice ai p.items.length ac] 25 (0, 0))) ∧ Hid (wx.heap[B]? = some (.cells #[.int .i64 v.kind, .int .i64 v.int, .string v.text, .slice bn v.names.length bm, .slice bi v.items.length bc] 25 (0, 0))) ∧ Hid (wx.heap[C]? = some (.cells #[.int .i64 x.kind, .int .i64 x.int, .string x.text, .slice cn x.names.length cm, .slice ci x.items.length cc] 25 (0, 0))) ∧ Hid (Below w.heap.size w wx))
  case first =>
    go_region_held3 (fun w' => w'.cell? ⟨w.heap.size, 0, none⟩ = some (.int .i64 p.kind) ∧ w'.cell? ⟨w.heap.size, 1, none⟩ = some (.int .i64 p.int) ∧ w'.cell? ⟨w.heap.size, 2, none⟩ = some (.string p.text) ∧ w'.cell? ⟨w.heap.size, 3, none⟩ = some (.slice an p.names.length am) ∧ w'.cell? ⟨w.heap.size, 4, none⟩ = some (.slice ai p.items.length ac) ∧ w'.cell? ⟨w.heap.size, 5, none⟩ = some (.int .i64 v.kind) ∧ w'.cell? ⟨w.heap.size, 6, none⟩ = some (.int .i64 v.int) ∧ w'.cell? ⟨w.heap.size, 7, none⟩ = some (.string v.text) ∧ w'.cell? ⟨w.heap.size, 8, none⟩ = some (.slice bn v.names.length bm) ∧ w'.cell? ⟨w.heap.size, 9, none⟩ = some (.slice bi v.items.length bc) ∧ w'.cell? ⟨w.heap.size, 10, none⟩ = some (.string nm) ∧ w'.cell? ⟨w.heap.size, 11, none⟩ = some (.int .i64 x.kind) ∧ w'.cell? ⟨w.heap.size, 12, none⟩ = some (.int .i64 x.int) ∧ w'.cell? ⟨w.heap.size, 13, none⟩ = some (.string x.text) ∧ w'.cell? ⟨w.heap.size, 14, none⟩ = some (.slice cn x.names.length cm) ∧ w'.cell? ⟨w.heap.size, 15, none⟩ = some (.slice ci x.items.length cc)) (exact HSS.out _ (by repeat (first | with_reducible exact Below.refl _ _ | with_reducible refine Below.drew ?_ | with_reducible refine below_set5 ?_ (by first | (simp; done) | (simp; omega)) | with_reducible refine Below.alloc ?_ (by first | (simp; done) | (simp; omega)) _))) (fail)
    all_goals (
      go_wp2_with fail
      go_meet
      obtain ⟨⟨k0, k1⟩, k2⟩ := al3 (W := (w.alloc (.cells #[.int .i64 p.kind, .int .i64 p.int, .string p.text, .slice an p.names.length am, .slice ai p.items.length ac, .int .i64 v.kind, .int .i64 v.int, .string v.text, .slice bn v.names.length bm, .slice bi v.items.length bc, .string nm, .int .i64 x.kind, .int .i64 x.int, .string x.text, .slice cn x.names.length cm, .slice ci x.items.length cc] 36))) (a := .cells #[.int .i64 p.kind, .int .i64 p.int, .string p.text, .slice an p.names.length am, .slice ai p.items.length ac] 25) (b := .cells #[.int .i64 v.kind, .int .i64 v.int, .string v.text, .slice bn v.names.length bm, .slice bi v.items.length bc] 25) (c := .cells #[.int .i64 x.kind, .int .i64 x.int, .string x.text, .slice cn x.names.length cm, .slice ci x.items.length cc] 25) (World.size_alloc _ _)
      obtain ⟨⟨l0, l1⟩, l2⟩ := al3 (W := (w.alloc (.cells #[.int .i64 p.kind, .int .i64 p.int, .string p.text, .slice an p.names.length am, .slice ai p.items.length ac, .int .i64 v.kind, .int .i64 v.int, .string v.text, .slice bn v.names.length bm, .slice bi v.items.length bc, .string nm, .int .i64 x.kind, .int .i64 x.int, .string x.text, .slice cn x.names.length cm, .slice ci x.items.length cc] 36))) (a := .cells #[.int .i64 p.kind, .int .i64 p.int, .string p.text, .slice an p.names.length am, .slice ai p.items.length ac] 25) (b := .cells #[.int .i64 x.kind, .int .i64 x.int, .string x.text, .slice cn x.names.length cm, .slice ci x.items.length cc] 25) (c := .cells #[.int .i64 v.kind, .int .i64 v.int, .string v.text, .slice bn v.names.length bm, .slice bi v.items.length bc] 25) (World.size_alloc _ _)
      obtain ⟨⟨m0, m1⟩, m2⟩ := al3 (W := (w.alloc (.cells #[.int .i64 p.kind, .int .i64 p.int, .string p.text, .slice an p.names.length am, .slice ai p.items.length ac, .int .i64 v.kind, .int .i64 v.int, .string v.text, .slice bn v.names.length bm, .slice bi v.items.length bc, .string nm, .int .i64 x.kind, .int .i64 x.int, .string x.text, .slice cn x.names.length cm, .slice ci x.items.length cc] 36))) (a := .cells #[.int .i64 v.kind, .int .i64 v.int, .string v.text, .slice bn v.names.length bm, .slice bi v.items.length bc] 25) (b := .cells #[.int .i64 p.kind, .int .i64 p.int, .string p.text, .slice an p.names.length am, .slice ai p.items.length ac] 25) (c := .cells #[.int .i64 x.kind, .int .i64 x.int, .string x.text, .slice cn x.names.length cm, .slice ci x.items.length cc] 25) (World.size_alloc _ _)
      obtain ⟨⟨n0, n1⟩, n2⟩ := al3 (W := (w.alloc (.cells #[.int .i64 p.kind, .int .i64 p.int, .string p.text, .slice an p.names.length am, .slice ai p.items.length ac, .int .i64 v.kind, .int .i64 v.int, .string v.text, .slice bn v.names.length bm, .slice bi v.items.length bc, .string nm, .int .i64 x.kind, .int .i64 x.int, .string x.text, .slice cn x.names.length cm, .slice ci x.items.length cc] 36))) (a := .cells #[.int .i64 v.kind, .int .i64 v.int, .string v.text, .slice bn v.names.length bm, .slice bi v.items.length bc] 25) (b := .cells #[.int .i64 x.kind, .int .i64 x.int, .string x.text, .slice cn x.names.length cm, .slice ci x.items.length cc] 25) (c := .cells #[.int .i64 p.kind, .int .i64 p.int, .string p.text, .slice an p.names.length am, .slice ai p.items.length ac] 25) (World.size_alloc _ _)
      obtain ⟨⟨o0, o1⟩, o2⟩ := al3 (W := (w.alloc (.cells #[.int .i64 p.kind, .int .i64 p.int, .string p.text, .slice an p.names.length am, .slice ai p.items.length ac, .int .i64 v.kind, .int .i64 v.int, .string v.text, .slice bn v.names.length bm, .slice bi v.items.length bc, .string nm, .int .i64 x.kind, .int .i64 x.int, .string x.text, .slice cn x.names.length cm, .slice ci x.items.length cc] 36))) (a := .cells #[.int .i64 x.kind, .int .i64 x.int, .string x.text, .slice cn x.names.length cm, .slice ci x.items.length cc] 25) (b := .cells #[.int .i64 p.kind, .int .i64 p.int, .string p.text, .slice an p.names.length am, .slice ai p.items.length ac] 25) (c := .cells #[.int .i64 v.kind, .int .i64 v.int, .string v.text, .slice bn v.names.length bm, .slice bi v.items.length bc] 25) (World.size_alloc _ _)
      obtain ⟨⟨p0, p1⟩, p2⟩ := al3 (W := (w.alloc (.cells #[.int .i64 p.kind, .int .i64 p.int, .string p.text, .slice an p.names.length am, .slice ai p.items.length ac, .int .i64 v.kind, .int .i64 v.int, .string v.text, .slice bn v.names.length bm, .slice bi v.items.length bc, .string nm, .int .i64 x.kind, .int .i64 x.int, .string x.text, .slice cn x.names.length cm, .slice ci x.items.length cc] 36))) (a := .cells #[.int .i64 x.kind, .int .i64 x.int, .string x.text, .slice cn x.names.length cm, .slice ci x.items.length cc] 25) (b := .cells #[.int .i64 v.kind, .int .i64 v.int, .string v.text, .slice bn v.names.length bm, .slice bi v.items.length bc] 25) (c := .cells #[.int .i64 p.kind, .int .i64 p.int, .string p.text, .slice an p.names.length am, .slice ai p.items.length ac] 25) (World.size_alloc _ _)
      first
        | with_reducible exact ⟨_, _, _, rfl, rfl, rfl, rfl, Lib.hid k0, Lib.hid k1, Lib.hid k2, Lib.hid (by repeat (first | with_reducible exact Below.refl _ _ | with_reducible refine below_drewN ?_ _ | with_reducible refine Below.drew ?_ | with_reducible refine below_set5 ?_ (by first | (simp; done) | (simp; omega)) | with_reducible refine Below.alloc ?_ (by first | (simp; done) | (simp; omega)) _ | with_reducible refine Below.setCell ?_ (by first | (simp; done) | (simp; omega)) _))⟩
        | with_reducible exact ⟨_, _, _, rfl, rfl, rfl, rfl, Lib.hid l0, Lib.hid l2, Lib.hid l1, Lib.hid (by repeat (first | with_reducible exact Below.refl _ _ | with_reducible refine below_drewN ?_ _ | with_reducible refine Below.drew ?_ | with_reducible refine below_set5 ?_ (by first | (simp; done) | (simp; omega)) | with_reducible refine Below.alloc ?_ (by first | (simp; done) | (simp; omega)) _ | with_reducible refine Below.setCell ?_ (by first | (simp; done) | (simp; omega)) _))⟩
        | with_reducible exact ⟨_, _, _, rfl, rfl, rfl, rfl, Lib.hid m1, Lib.hid m0, Lib.hid m2, Lib.hid (by repeat (first | with_reducible exact Below.refl _ _ | with_reducible refine below_drewN ?_ _ | with_reducible refine Below.drew ?_ | with_reducible refine below_set5 ?_ (by first | (simp; done) | (simp; omega)) | with_reducible refine Below.alloc ?_ (by first | (simp; done) | (simp; omega)) _ | with_reducible refine Below.setCell ?_ (by first | (simp; done) | (simp; omega)) _))⟩
        | with_reducible exact ⟨_, _, _, rfl, rfl, rfl, rfl, Lib.hid n2, Lib.hid n0, Lib.hid n1, Lib.hid (by repeat (first | with_reducible exact Below.refl _ _ | with_reducible refine below_drewN ?_ _ | with_reducible refine Below.drew ?_ | with_reducible refine below_set5 ?_ (by first | (simp; done) | (simp; omega)) | with_reducible refine Below.alloc ?_ (by first | (simp; done) | (simp; omega)) _ | with_reducible refine Below.setCell ?_ (by first | (simp; done) | (simp; omega)) _))⟩
        | with_reducible exact ⟨_, _, _, rfl, rfl, rfl, rfl, Lib.hid o1, Lib.hid o2, Lib.hid o0, Lib.hid (by repeat (first | with_reducible exact Below.refl _ _ | with_reducible refine below_drewN ?_ _ | with_reducible refine Below.drew ?_ | with_reducible refine below_set5 ?_ (by first | (simp; done) | (simp; omega)) | with_reducible refine Below.alloc ?_ (by first | (simp; done) | (simp; omega)) _ | with_reducible refine Below.setCell ?_ (by first | (simp; done) | (simp; omega)) _))⟩
        | with_reducible exact ⟨_, _, _, rfl, rfl, rfl, rfl, Lib.hid p2, Lib.hid p1, Lib.hid p0, Lib.hid (by repeat (first | with_reducible exact Below.refl _ _ | with_reducible refine below_drewN ?_ _ | with_reducible refine Below.drew ?_ | with_reducible refine below_set5 ?_ (by first | (simp; done) | (simp; omega)) | with_reducible refine Below.alloc ?_ (by first | (simp; done) | (simp; omega)) _ | with_reducible refine Below.setCell ?_ (by first | (simp; done) | (simp; omega)) _))⟩)
  case rest =>
    obtain ⟨A, B, C, rfl, rfl, rfl, rfl, HX, HY, HZ, HB0⟩ := hcut
    clear HSS
    generalize hwc : wc = W0 at *
    clear hwc
    have HR := Lib.hid (HR0.out.1.below HB0.out)
    have HS := Lib.hid (HR0.out.2.1.below HB0.out)
    have HV := Lib.hid (HR0.out.2.2.1.below HB0.out)
    have HT := Lib.hid (tabs_below HR0.out.2.2.2.1 HB0.out)
    have HU := Lib.hid (TabU.below HR0.out.2.2.2.2 HB0.out)
    clear HR0
    have hx1 : A < W0.heap.size := (Array.getElem?_eq_some_iff.1 HX.out).1
    have hy1 : B < W0.heap.size := (Array.getElem?_eq_some_iff.1 HY.out).1
    have hz1 : C < W0.heap.size := (Array.getElem?_eq_some_iff.1 HZ.out).1
    have HSS := Lib.hid (fun (W' : World) (hW : Below W0.heap.size W0 W') => (show (fun w' => w'.cell? ⟨A, 0, none⟩ = some (.int .i64 p.kind) ∧ w'.cell? ⟨A, 1, none⟩ = some (.int .i64 p.int) ∧ w'.cell? ⟨A, 2, none⟩ = some (.string p.text) ∧ w'.cell? ⟨A, 3, none⟩ = some (.slice an p.names.length am) ∧ w'.cell? ⟨A, 4, none⟩ = some (.slice ai p.items.length ac) ∧ w'.cell? ⟨B, 0, none⟩ = some (.int .i64 v.kind) ∧ w'.cell? ⟨B, 1, none⟩ = some (.int .i64 v.int) ∧ w'.cell? ⟨B, 2, none⟩ = some (.string v.text) ∧ w'.cell? ⟨B, 3, none⟩ = some (.slice bn v.names.length bm) ∧ w'.cell? ⟨B, 4, none⟩ = some (.slice bi v.items.length bc) ∧ w'.cell? ⟨C, 0, none⟩ = some (.int .i64 x.kind) ∧ w'.cell? ⟨C, 1, none⟩ = some (.int .i64 x.int) ∧ w'.cell? ⟨C, 2, none⟩ = some (.string x.text) ∧ w'.cell? ⟨C, 3, none⟩ = some (.slice cn x.names.length cm) ∧ w'.cell? ⟨C, 4, none⟩ = some (.slice ci x.items.length cc)) W' from by
      obtain ⟨a0, a1, a2, a3, a4⟩ := (cellsOf5 ((hW.block _ hx1).trans HX.out)).1
      obtain ⟨b0, b1, b2, b3, b4⟩ := (cellsOf5 ((hW.block _ hy1).trans HY.out)).1
      obtain ⟨v0, v1, v2, v3, v4⟩ := (cellsOf5 ((hW.block _ hz1).trans HZ.out)).1
      exact ⟨a0, a1, a2, a3, a4, b0, b1, b2, b3, b4, v0, v1, v2, v3, v4⟩))
    obtain ⟨S, HSJ⟩ : ∃ S, Hid (jobj ⟨#[112, 114, 111, 112, 101, 114, 116, 105, 101, 115]⟩ p = S) := ⟨_, Lib.hid rfl⟩
    have HO1 := Lib.hid (vres_out (object_c ⟨#[112, 114, 111, 112, 101, 114, 116, 105, 101, 115]⟩ p [.int .i64 p.kind, .int .i64 p.int, .string p.text, .slice an p.names.length am, .slice ai p.items.length ac] W0 _ HR.out))
    rw [HSJ.out] at HO1
    obtain ⟨a0, a1, a2, a3, a4, -⟩ := HSS.out W0 (Below.refl _ _)
    go_wp2_with fail
    with_reducible refine HO1.out.mono ?_; rintro e w1 ⟨c1, rfl, HRo, HBo⟩
    obtain ⟨sn, sm, si, sc, rfl⟩ := HRo.out.form
    have HA1 := Lib.hid ((HBo.out).alloc HBo.out.size (.cells #[.int .i64 S.kind, .int .i64 S.int, .string S.text, .slice sn S.names.length sm, .slice si S.items.length sc] 25))
    have hw1 : (w1.alloc (.cells #[.int .i64 S.kind, .int .i64 S.int, .string S.text, .slice sn S.names.length sm, .slice si S.items.length sc] 25)).heap.size = w1.heap.size + 1 := World.size_alloc _ _
    have HD1 := Lib.hid (heap_alloc_new w1 (.cells #[.int .i64 S.kind, .int .i64 S.int, .string S.text, .slice sn S.names.length sm, .slice si S.items.length sc] 25))
    have HRS := Lib.hid (HRo.out.below ((Below.refl _ _).alloc (Nat.le_refl _) (.cells #[.int .i64 S.kind, .int .i64 S.int, .string S.text, .slice sn S.names.length sm, .slice si S.items.length sc] 25)))
    have HLC := Lib.hid (show Calls Tryz.prog 6 #[.slice (some ⟨w1.heap.size + 1, 0, none⟩) 3 3] ((w1.alloc (.cells #[.int .i64 S.kind, .int .i64 S.int, .string S.text, .slice sn S.names.length sm, .slice si S.items.length sc] 25)).alloc (.cells #[.int .i64 p.kind, .int .i64 p.int, .string p.text, .slice an p.names.length am, .slice ai p.items.length ac, .int .i64 v.kind, .int .i64 v.int, .string v.text, .slice bn v.names.length bm, .slice bi v.items.length bc, .int .i64 x.kind, .int .i64 x.int, .string x.text, .slice cn x.names.length cm, .slice ci x.items.length cc] 25)) (fun e w' => e = .returned (.bool (largeS [p, v, x])) ∧ Below ((w1.alloc (.cells #[.int .i64 S.kind, .int .i64 S.int, .string S.text, .slice sn S.names.length sm, .slice si S.items.length sc] 25)).alloc (.cells #[.int .i64 p.kind, .int .i64 p.int, .string p.text, .slice an p.names.length am, .slice ai p.items.length ac, .int .i64 v.kind, .int .i64 v.int, .string v.text, .slice bn v.names.length bm, .slice bi v.items.length bc, .int .i64 x.kind, .int .i64 x.int, .string x.text, .slice cn x.names.length cm, .slice ci x.items.length cc] 25)).heap.size ((w1.alloc (.cells #[.int .i64 S.kind, .int .i64 S.int, .string S.text, .slice sn S.names.length sm, .slice si S.items.length sc] 25)).alloc (.cells #[.int .i64 p.kind, .int .i64 p.int, .string p.text, .slice an p.names.length am, .slice ai p.items.length ac, .int .i64 v.kind, .int .i64 v.int, .string v.text, .slice bn v.names.length bm, .slice bi v.items.length bc, .int .i64 x.kind, .int .i64 x.int, .string x.text, .slice cn x.names.length cm, .slice ci x.items.length cc] 25)) w') from by
      have hb1 : Below W0.heap.size W0 ((w1.alloc (.cells #[.int .i64 S.kind, .int .i64 S.int, .string S.text, .slice sn S.names.length sm, .slice si S.items.length sc] 25)).alloc (.cells #[.int .i64 p.kind, .int .i64 p.int, .string p.text, .slice an p.names.length am, .slice ai p.items.length ac, .int .i64 v.kind, .int .i64 v.int, .string v.text, .slice bn v.names.length bm, .slice bi v.items.length bc, .int .i64 x.kind, .int .i64 x.int, .string x.text, .slice cn x.names.length cm, .slice ci x.items.length cc] 25)) := HA1.out.alloc HA1.out.size _
      have hBn := heap_alloc_new (w1.alloc (.cells #[.int .i64 S.kind, .int .i64 S.int, .string S.text, .slice sn S.names.length sm, .slice si S.items.length sc] 25)) (.cells #[.int .i64 p.kind, .int .i64 p.int, .string p.text, .slice an p.names.length am, .slice ai p.items.length ac, .int .i64 v.kind, .int .i64 v.int, .string v.text, .slice bn v.names.length bm, .slice bi v.items.length bc, .int .i64 x.kind, .int .i64 x.int, .string x.text, .slice cn x.names.length cm, .slice ci x.items.length cc] 25)
      rw [hw1] at hBn
      exact large_c [p, v, x] (by simp) (fun y hy => by
        rcases List.mem_cons.1 hy with rfl | hy
        · have := HBK.out.1; omega
        · rcases List.mem_cons.1 hy with rfl | hy
          · have := HBK.out.2.1; omega
          · rw [List.mem_singleton.1 hy]; have := HBK.out.2.2.1; omega) (some ⟨w1.heap.size + 1, 0, none⟩) 3 _ _ (items_block [(p, [.int .i64 p.kind, .int .i64 p.int, .string p.text, .slice an p.names.length am, .slice ai p.items.length ac]), (v, [.int .i64 v.kind, .int .i64 v.int, .string v.text, .slice bn v.names.length bm, .slice bi v.items.length bc]), (x, [.int .i64 x.kind, .int .i64 x.int, .string x.text, .slice cn x.names.length cm, .slice ci x.items.length cc])] (ok := fun _ => True) (fun q hq => by
        rcases List.mem_cons.1 hq with rfl | hq
        · exact HR.out.below hb1
        · rcases List.mem_cons.1 hq with rfl | hq
          · exact HS.out.below hb1
          · rw [List.mem_singleton.1 hq]; exact HV.out.below hb1) hBn))
    have HA2 := Lib.hid (HA1.out.alloc HA1.out.size (.cells #[.int .i64 p.kind, .int .i64 p.int, .string p.text, .slice an p.names.length am, .slice ai p.items.length ac, .int .i64 v.kind, .int .i64 v.int, .string v.text, .slice bn v.names.length bm, .slice bi v.items.length bc, .int .i64 x.kind, .int .i64 x.int, .string x.text, .slice cn x.names.length cm, .slice ci x.items.length cc] 25))
    have HDD := Lib.hid ((Below.refl (w1.alloc (.cells #[.int .i64 S.kind, .int .i64 S.int, .string S.text, .slice sn S.names.length sm, .slice si S.items.length sc] 25)).heap.size (w1.alloc (.cells #[.int .i64 S.kind, .int .i64 S.int, .string S.text, .slice sn S.names.length sm, .slice si S.items.length sc] 25))).alloc (Nat.le_refl _) (.cells #[.int .i64 p.kind, .int .i64 p.int, .string p.text, .slice an p.names.length am, .slice ai p.items.length ac, .int .i64 v.kind, .int .i64 v.int, .string v.text, .slice bn v.names.length bm, .slice bi v.items.length bc, .int .i64 x.kind, .int .i64 x.int, .string x.text, .slice cn x.names.length cm, .slice ci x.items.length cc] 25))
    clear HO1 a0 a1 a2 a3 a4
    obtain ⟨a0, a1, a2, a3, a4, b0, b1, b2, b3, b4, v0, v1, v2, v3, v4⟩ := HSS.out _ HA1.out
    go_wp2_with fail
    with_reducible refine HLC.out.mono ?_; rintro e w2 ⟨rfl, hb2⟩
    have hDlt : w1.heap.size < (w1.alloc (.cells #[.int .i64 S.kind, .int .i64 S.int, .string S.text, .slice sn S.names.length sm, .slice si S.items.length sc] 25)).heap.size := by rw [hw1]; omega
    generalize hW1 : w1.alloc (.cells #[.int .i64 S.kind, .int .i64 S.int, .string S.text, .slice sn S.names.length sm, .slice si S.items.length sc] 25) = W1 at *
    generalize hDe : w1.heap.size = D at *
    have HA3 := Lib.hid (HA2.out.trans (hb2.mono HA2.out.size))
    have HDW := Lib.hid (HDD.out.trans (hb2.mono HDD.out.size))
    clear HLC hb2 a0 a1 a2 a3 a4 b0 b1 b2 b3 b4 v0 v1 v2 v3 v4 HA2 HDD hw1 HRo HBo hW1 hDe
    cases hlg : largeS [p, v, x] with
    | true =>
      go_wp2_with fail
      refine (live_c w2 (tabs_below HT.out HA3.out)).mono ?_; rintro e y1 ⟨rfl, hb14⟩
      have HA14 := Lib.hid (HA3.out.trans (hb14.mono HA3.out.size))
      clear hb14
      go_wp2
      go_ret
      exact ⟨rfl, HB0.out.trans (HA14.out.mono HB0.out.size)⟩
    | false =>
      have HVS := Lib.hid (show v.size + x.size ≤ 3000 from two_small hlg (a := [p]) (b := []) (c := []) rfl)
      clear hlg
      have HSZ := Lib.hid (show S.bulk ≤ 1048576 + 20 from by
        rw [← HSJ.out, obj_bulk, show (⟨#[112, 114, 111, 112, 101, 114, 116, 105, 101, 115]⟩ : ByteArray).size = 10 from rfl]
        have := HBK.out.1
        omega)
      have HRS2 := Lib.hid (HRS.out.below HDW.out)
      obtain ⟨d0, d1, d2, d3, d4⟩ := (cellsOf5 ((HDW.out.block D hDlt).trans HD1.out)).1
      have HRA := Lib.hid (refRead_c S (by have := HSZ.out; omega) _ w2 _ HRS2.out)
      obtain ⟨zs, HZS⟩ : ∃ z, Hid (readE S = z) := ⟨_, Lib.hid rfl⟩
      go_wp2_with fail
      refine HRA.out.mono ?_; rintro e w3 ⟨N, rfl, -, -, hb3⟩
      rw [HZS.out]
      have HA4 := Lib.hid (HA3.out.trans (hb3.mono HA3.out.size))
      have HDX := Lib.hid (HDW.out.trans (hb3.mono HDW.out.size))
      clear HRA hb3 d0 d1 d2 d3 d4
      by_cases hzs : zs = 0
      case neg =>
        have hzb : (zs != 0) = true := by simp [hzs]
        go_wp2_with fail
        refine (live_c w3 (tabs_below HT.out HA4.out)).mono ?_; rintro e y1 ⟨rfl, hb14⟩
        have HA14 := Lib.hid (HA4.out.trans (hb14.mono HA4.out.size))
        clear hb14
        go_wp2
        go_ret
        exact ⟨rfl, HB0.out.trans (HA14.out.mono HB0.out.size)⟩
      subst hzs
      obtain ⟨kv, HKV⟩ : ∃ z, Hid (v.kind = z) := ⟨_, Lib.hid rfl⟩
      by_cases hkv : kv = 6
      case neg =>
        have hkb : (kv != 6) = true := by simp [hkv]
        obtain ⟨_, _, _, _, _, b0, b1, b2, b3, b4, -⟩ := HSS.out _ HA4.out
        rw [HKV.out] at b0
        go_wp2_with fail
        refine (live_c w3 (tabs_below HT.out HA4.out)).mono ?_; rintro e y1 ⟨rfl, hb14⟩
        have HA14 := Lib.hid (HA4.out.trans (hb14.mono HA4.out.size))
        clear hb14
        go_wp2
        go_ret
        exact ⟨rfl, HB0.out.trans (HA14.out.mono HB0.out.size)⟩
      subst hkv
      by_cases hnl : (v.names.length : Int) = (v.items.length : Int)
      case neg =>
        obtain ⟨_, _, _, _, _, b0, b1, b2, b3, b4, -⟩ := HSS.out _ HA4.out
        rw [HKV.out] at b0
        go_wp2_with fail
        refine (live_c w3 (tabs_below HT.out HA4.out)).mono ?_; rintro e y1 ⟨rfl, hb14⟩
        have HA14 := Lib.hid (HA4.out.trans (hb14.mono HA4.out.size))
        clear hb14
        go_wp2
        go_ret
        exact ⟨rfl, HB0.out.trans (HA14.out.mono HB0.out.size)⟩
      have HNL := Lib.hid (show v.items.length = v.names.length by omega)
      have HNN := Lib.hid (show v.names.length ≤ 1048576 ∧ p.names.length ≤ 1048576 by
        have h1 := names_len v
        have h2 := names_len p
        have h3 := HBK.out.1
        have h4 := HBK.out.2.1
        omega)
      obtain ⟨_, _, _, _, _, b0, b1, b2, b3, b4, -⟩ := HSS.out _ HA4.out
      rw [HKV.out] at b0
      go_wp2
      clear b0 b1 b2 b3 b4 hnl
      go_loopw [10] (fun i wr => ∃ j : Nat, j ≤ v.names.length ∧ i = .int .i64 j ∧ w3 = wr ∧ Hid (∀ t (ht : t < v.names.length), t < j → v.names[t] ≠ nm)) (fun i _ => v.names.length - (intOf i).toNat)
      case atStart => exact ⟨0, Nat.zero_le _, rfl, rfl, Lib.hid (fun t _ h => absurd h (Nat.not_lt_zero t))⟩
      case round =>
        obtain ⟨j, hj, rfl, rfl, HNE⟩ := hrel
        obtain ⟨_, _, _, _, _, b0, b1, b2, b3, b4, -⟩ := HSS.out _ HA4.out
        by_cases hlt : j < v.names.length
        · obtain ⟨hst, -, -⟩ := rep_lists (HS.out.below HA4.out)
          obtain ⟨nb, noff, rfl, hn0⟩ := hst.at j hlt
          have HSE := Lib.hid (show ∃ s, v.names[j] = s from ⟨_, rfl⟩)
          by_cases heq : v.names[j] = nm
          · rw [heq] at hn0
            have hbe : (nm.toList == nm.toList) = true := bytes_eq.2 rfl
            clear hst
            have hj2 : j ≤ 1099511627776 := by have := HNN.out; omega
            go_wp2_with fail
            refine (live_c w3 (tabs_below HT.out HA4.out)).mono ?_; rintro e y1 ⟨rfl, hb14⟩
            have HA14 := Lib.hid (HA4.out.trans (hb14.mono HA4.out.size))
            clear hb14
            go_wp2
            go_ret
            exact ⟨rfl, HB0.out.trans (HA14.out.mono HB0.out.size)⟩
          · have hbe : ((v.names[j]).toList == nm.toList) = false := bytes_ne heq
            have HNX := Lib.hid (show ∀ t (ht : t < v.names.length), t < j + 1 → v.names[t] ≠ nm from fun t ht h => by
              rcases Nat.lt_or_ge t j with h2 | h2
              · exact HNE.out t ht h2
              · obtain rfl : t = j := by omega
                exact heq)
            have hj2 : j ≤ 1099511627776 := by have := HNN.out; omega
            clear hst heq HSE
            generalize v.names[j] = sj at *
            go_wp2
            go_roundw
            case rel => exact ⟨j + 1, by omega, by go_num, trivial, HNX⟩
            case measure => simp [intOf]; omega
        · obtain rfl : j = v.names.length := by omega
          have HN1 := Lib.hid (show nm ∉ v.names from fun hm => by
            obtain ⟨t, ht, e⟩ := List.getElem_of_mem hm
            exact HNE.out t ht ht e)
          clear HNE hlt hj
          go_wp2
          clear b0 b1 b2 b3 b4
          go_loopw [11] (fun i wr => ∃ j : Nat, j ≤ p.names.length ∧ i = .int .i64 j ∧ w3 = wr ∧ Hid (∀ t (ht : t < p.names.length), t < j → p.names[t] ≠ nm)) (fun i _ => p.names.length - (intOf i).toNat)
          case atStart => exact ⟨0, Nat.zero_le _, rfl, rfl, Lib.hid (fun t _ h => absurd h (Nat.not_lt_zero t))⟩
          case round =>
            obtain ⟨j, hj, rfl, rfl, HNE⟩ := hrel
            obtain ⟨a0, a1, a2, a3, a4, -⟩ := HSS.out _ HA4.out
            by_cases hlt : j < p.names.length
            · obtain ⟨hst, -, -⟩ := rep_lists (HR.out.below HA4.out)
              obtain ⟨nb, noff, rfl, hn0⟩ := hst.at j hlt
              have hj2 : j ≤ 1099511627776 := by have := HNN.out; omega
              by_cases heq : p.names[j] = nm
              · rw [heq] at hn0
                have hbe : (nm.toList == nm.toList) = true := bytes_eq.2 rfl
                clear hst
                go_wp2_with fail
                refine (live_c w3 (tabs_below HT.out HA4.out)).mono ?_; rintro e y1 ⟨rfl, hb14⟩
                have HA14 := Lib.hid (HA4.out.trans (hb14.mono HA4.out.size))
                clear hb14
                go_wp2
                go_ret
                exact ⟨rfl, HB0.out.trans (HA14.out.mono HB0.out.size)⟩
              · have hbe : ((p.names[j]).toList == nm.toList) = false := bytes_ne heq
                have HNX := Lib.hid (show ∀ t (ht : t < p.names.length), t < j + 1 → p.names[t] ≠ nm from fun t ht h => by
                  rcases Nat.lt_or_ge t j with h2 | h2
                  · exact HNE.out t ht h2
                  · obtain rfl : t = j := by omega
                    exact heq)
                clear hst heq
                generalize p.names[j] = sj at *
                go_wp2
                go_roundw
                case rel => exact ⟨j + 1, by omega, by go_num, trivial, HNX⟩
                case measure => simp [intOf]; omega
            · obtain rfl : j = p.names.length := by omega
              have HN2 := Lib.hid (show nm ∉ p.names from fun hm => by
                obtain ⟨t, ht, e⟩ := List.getElem_of_mem hm
                exact HNE.out t ht ht e)
              clear HNE hlt hj
              go_wp2_with fail
              clear a0 a1 a2 a3 a4
              go_upto_region 18 with (fail)
              go_cut [12] from 90 to 104 (fun q12 wx => ∃ (E : Nat) (na ia : Option Addr) (nc ic : Nat), q12 = .pointer (some ⟨E, 0, none⟩) ∧ Hid (wx.heap[E]? = some (.cells #[.int .i64 6, .int .i64 0, .string ⟨#[]⟩, .slice na (v.names.length + 1) nc, .slice ia (v.items.length + 1) ic] 25 (0, 0))) ∧ Hid (Rep wx (fun _ => True) (widerJ v nm x) [.int .i64 6, .int .i64 0, .string ⟨#[]⟩, .slice na (v.names.length + 1) nc, .slice ia (v.items.length + 1) ic]) ∧ Hid (Below w3.heap.size w3 wx))
              case first =>
                with_reducible refine rest_region v x nm w3 B C bn bi cn ci bm bc cm cc ((HA4.out.block B hy1).trans HY.out) ((HA4.out.block C hz1).trans HZ.out) (HS.out.below HA4.out) (HV.out.below HA4.out) HNN.out.1 HNL.out _ _ _ ?_ ?_ ?_ ?_ ?_
                · simp
                · rfl
                · rfl
                · rfl
                intro u0 u1 u2 u3 u4 u5 u6 u7 u8 u9 u10 u11 u12 u13 u14 u15 wq hq
                obtain ⟨E, na, ia, nc, ic, rfl, e1, e2, e3⟩ := hq
                have F1 := Lib.hid e1
                have F2 := Lib.hid e2
                have F3 := Lib.hid e3
                clear e1 e2 e3
                rw [frm_puts]
                simp only [Act.put, List.setIfInBounds_toArray, List.set_cons_succ, List.set_cons_zero]
                go_wp2_with fail
                go_meet
                exact ⟨E, na, ia, nc, ic, rfl, F1, F2, F3⟩
              case rest =>
                obtain ⟨E, na, ia, nc, ic, rfl, HE, HW, HBC⟩ := hcut
                generalize hwc2 : wc = w4 at *
                clear hwc2
                have HA5 := Lib.hid (HA4.out.trans (HBC.out.mono HA4.out.size))
                have HDY5 := Lib.hid (HDX.out.trans (HBC.out.mono HDX.out.size))
                have hEl : E < w4.heap.size := (Array.getElem?_eq_some_iff.1 HE.out).1
                have HBW := Lib.hid (wider_bulk v nm x)
                have HSW := Lib.hid (wider_size v nm x HNL.out.symm)
                have HGD := Lib.hid (readE_good.1 HZS.out)
                obtain ⟨ka, HKA⟩ : ∃ z, Hid (keepsR S v = z) := ⟨_, Lib.hid rfl⟩
                have HKB := Lib.hid (show keepsR S (widerJ v nm x) = ka from by
                  rw [← HKA.out, keepsR, keepsR, ← HSJ.out, rest_fault HKV.out HNL.out HN2.out])
                have HKP := Lib.hid (fun (s t : JV) (cs vs : List Value) (W : World) (okS okV : Nat → Prop) (hs : Rep W okS s cs) (hv : Rep W okV t vs) (hB : Below W0.heap.size W0 W) (hk : s.bulk ≤ 1099511627776) (hz : t.size ≤ 3001) (htb : t.bulk ≤ 1099511627776) => keeps_c 3001 s t hk hz htb cs vs W okS okV hs hv (tabs_below HT.out hB) (itoC_all W (TabU.below HU.out hB)))
                obtain ⟨d0, d1, d2, d3, d4⟩ := (cellsOf5 ((HDY5.out.block D hDlt).trans HD1.out)).1
                obtain ⟨_, _, _, _, _, b0, b1, b2, b3, b4, -⟩ := HSS.out _ HA5.out
                have HK1 := Lib.hid (HKP.out S v _ _ w4 _ _ (HRS.out.below HDY5.out) (HS.out.below HA5.out) HA5.out (by have := HSZ.out; omega) (by have := HVS.out; omega) (by have := HBK.out.2.1; omega))
                rw [HKA.out, HGD.out] at HK1
                go_wp2_with fail
                with_reducible refine HK1.out.mono ?_; rintro e w5 ⟨rfl, hb5⟩
                have HA6 := Lib.hid (HA5.out.trans (hb5.mono HA5.out.size))
                have HDY6 := Lib.hid (HDY5.out.trans (hb5.mono HDY5.out.size))
                have HEW := Lib.hid ((hb5.block E hEl).trans HE.out)
                have HWW := Lib.hid (HW.out.below hb5)
                have hEl5 : E < w5.heap.size := Nat.lt_of_lt_of_le hEl hb5.size
                clear HK1 hb5 d0 d1 d2 d3 d4 b0 b1 b2 b3 b4
                obtain ⟨d0, d1, d2, d3, d4⟩ := (cellsOf5 ((HDY6.out.block D hDlt).trans HD1.out)).1
                obtain ⟨e0, e1, e2, e3, e4⟩ := (cellsOf5 HEW.out).1
                have HK2 := Lib.hid (HKP.out S (widerJ v nm x) _ _ w5 _ _ (HRS.out.below HDY6.out) HWW.out HA6.out (by have := HSZ.out; omega) (by have := HVS.out; have := HSW.out; omega) (by have := HBW.out; have := HBK.out; omega))
                rw [HKB.out, HGD.out] at HK2
                go_wp2_with fail
                with_reducible refine HK2.out.mono ?_; rintro e w6 ⟨rfl, hb6⟩
                have HA7 := Lib.hid (HA6.out.trans (hb6.mono HA6.out.size))
                have HDY7 := Lib.hid (HDY6.out.trans (hb6.mono HDY6.out.size))
                have HEX := Lib.hid ((hb6.block E hEl5).trans HEW.out)
                have HWX := Lib.hid (HWW.out.below hb6)
                clear HK2 hb6 d0 d1 d2 d3 d4 e0 e1 e2 e3 e4
                obtain ⟨a0, a1, a2, a3, a4, -⟩ := HSS.out _ (HA7.out.alloc HA7.out.size (.cells #[.string ⟨#[112, 114, 111, 112, 101, 114, 116, 105, 101, 115]⟩, .string ⟨#[97, 100, 100, 105, 116, 105, 111, 110, 97, 108]⟩] 9))
                obtain ⟨WO, hWO⟩ : ∃ W, W = ((w6.alloc (.cells #[.string ⟨#[112, 114, 111, 112, 101, 114, 116, 105, 101, 115]⟩, .string ⟨#[97, 100, 100, 105, 116, 105, 111, 110, 97, 108]⟩] 9)).alloc (.cells #[.int .i64 p.kind, .int .i64 p.int, .string p.text, .slice an p.names.length am, .slice ai p.items.length ac, .int .i64 1, .int .i64 0, .string ⟨#[]⟩, .slice none 0 0, .slice none 0 0] 25)).alloc (.cells #[.int .i64 6, .int .i64 0, .string ⟨#[]⟩, .slice (some ⟨w6.heap.size, 0, none⟩) 2 2, .slice (some ⟨w6.heap.size + 1, 0, none⟩) 2 2] 25) := ⟨_, rfl⟩
                obtain ⟨⟨g0, g1⟩, g2⟩ := al3 (W := w6) (a := .cells #[.string ⟨#[112, 114, 111, 112, 101, 114, 116, 105, 101, 115]⟩, .string ⟨#[97, 100, 100, 105, 116, 105, 111, 110, 97, 108]⟩] 9) (b := .cells #[.int .i64 p.kind, .int .i64 p.int, .string p.text, .slice an p.names.length am, .slice ai p.items.length ac, .int .i64 1, .int .i64 0, .string ⟨#[]⟩, .slice none 0 0, .slice none 0 0] 25) (c := .cells #[.int .i64 6, .int .i64 0, .string ⟨#[]⟩, .slice (some ⟨w6.heap.size, 0, none⟩) 2 2, .slice (some ⟨w6.heap.size + 1, 0, none⟩) 2 2] 25) rfl
                have hbo : Below w6.heap.size w6 WO := by rw [hWO]; exact (by repeat (first | with_reducible exact Below.refl _ _ | with_reducible refine below_drewN ?_ _ | with_reducible refine Below.drew ?_ | with_reducible refine below_set5 ?_ (by first | (simp; done) | (simp; omega)) | with_reducible refine Below.alloc ?_ (by first | (simp; done) | (simp; omega)) _ | with_reducible refine Below.setCell ?_ (by first | (simp; done) | (simp; omega)) _))
                have g0' : WO.heap[w6.heap.size]? = some (.cells #[.string ⟨#[112, 114, 111, 112, 101, 114, 116, 105, 101, 115]⟩, .string ⟨#[97, 100, 100, 105, 116, 105, 111, 110, 97, 108]⟩] 9 (0, 0)) := by rw [hWO]; exact g0
                have g1' : WO.heap[w6.heap.size + 1]? = some (.cells #[.int .i64 p.kind, .int .i64 p.int, .string p.text, .slice an p.names.length am, .slice ai p.items.length ac, .int .i64 1, .int .i64 0, .string ⟨#[]⟩, .slice none 0 0, .slice none 0 0] 25 (0, 0)) := by rw [hWO]; exact g1
                have g2' : WO.heap[w6.heap.size + 1 + 1]? = some (.cells #[.int .i64 6, .int .i64 0, .string ⟨#[]⟩, .slice (some ⟨w6.heap.size, 0, none⟩) 2 2, .slice (some ⟨w6.heap.size + 1, 0, none⟩) 2 2] 25 (0, 0)) := by rw [hWO]; exact g2
                have HON := Lib.hid (only_rep ((HR.out.below HA7.out).below hbo) g0' g1')
                have HRO := Lib.hid (refRead_c (onlyJ p) (by
                  have h1 : (onlyJ p).bulk ≤ p.bulk + 40 := by
                    unfold onlyJ jfalse
                    simp only [JV.bulk, strsBulk, JV.bulks, show (⟨#[]⟩ : ByteArray).size = 0 from rfl, show (⟨#[112, 114, 111, 112, 101, 114, 116, 105, 101, 115]⟩ : ByteArray).size = 10 from rfl, show (⟨#[97, 100, 100, 105, 116, 105, 111, 110, 97, 108]⟩ : ByteArray).size = 10 from rfl]
                    omega
                  have := HBK.out.1
                  omega) _ WO _ HON.out)
                have HG2 := Lib.hid g2'
                have HA8 := Lib.hid (HA7.out.trans (hbo.mono HA7.out.size))
                have HBO := Lib.hid hbo
                rw [hWO] at HRO
                clear g0 g1 g2 g0' g1' g2' hbo
                obtain ⟨zo, HZO⟩ : ∃ z, Hid (readE (onlyJ p) = z) := ⟨_, Lib.hid rfl⟩
                go_wp2_with fail
                refine HRO.out.mono ?_; rintro e w7 ⟨N7, rfl, -, -, hb7⟩
                rw [HZO.out]
                rw [← hWO] at hb7
                have HA9 := Lib.hid (HA8.out.trans (hb7.mono HA8.out.size))
                have HB7 := Lib.hid (HBO.out.trans (hb7.mono HBO.out.size))
                have hGl : w6.heap.size + 1 + 1 < WO.heap.size := (Array.getElem?_eq_some_iff.1 HG2.out).1
                have HG3 := Lib.hid ((hb7.block _ hGl).trans HG2.out)
                have HON2 := Lib.hid (HON.out.below hb7)
                have hEl6 : E < w6.heap.size := (Array.getElem?_eq_some_iff.1 HEX.out).1
                clear HRO a0 a1 a2 a3 a4 hWO hb7 HON
                by_cases hzo : zo = 0
                case neg =>
                  have hzb : (zo != 0) = true := by simp [hzo]
                  cases ka
                  · skip
                    go_wp2_with fail
                    refine (live_c w7 (tabs_below HT.out HA9.out)).mono ?_; rintro e y1 ⟨rfl, hb14⟩
                    have HA14 := Lib.hid (HA9.out.trans (hb14.mono HA9.out.size))
                    clear hb14
                    go_wp2
                    go_ret
                    exact ⟨rfl, HB0.out.trans (HA14.out.mono HB0.out.size)⟩
                  · skip
                    go_wp2_with fail
                    refine (live_c w7 (tabs_below HT.out HA9.out)).mono ?_; rintro e y1 ⟨rfl, hb14⟩
                    have HA14 := Lib.hid (HA9.out.trans (hb14.mono HA9.out.size))
                    clear hb14
                    go_wp2
                    go_ret
                    exact ⟨rfl, HB0.out.trans (HA14.out.mono HB0.out.size)⟩
                subst hzo
                have HGO := Lib.hid (readE_good.1 HZO.out)
                have HKC := Lib.hid (show keepsR (onlyJ p) (widerJ v nm x) = false from by rw [keepsR, only_fault HNL.out HN2.out, Bool.and_false])
                have HEY := Lib.hid ((HB7.out.block E hEl6).trans HEX.out)
                obtain ⟨e0, e1, e2, e3, e4⟩ := (cellsOf5 HEY.out).1
                obtain ⟨o0, o1, o2, o3, o4⟩ := (cellsOf5 HG3.out).1
                have HK3 := Lib.hid (HKP.out (onlyJ p) (widerJ v nm x) _ _ w7 _ _ HON2.out (HWX.out.below HB7.out) HA9.out (by
                  have h1 : (onlyJ p).bulk ≤ p.bulk + 40 := by
                    unfold onlyJ jfalse
                    simp only [JV.bulk, strsBulk, JV.bulks, show (⟨#[]⟩ : ByteArray).size = 0 from rfl, show (⟨#[112, 114, 111, 112, 101, 114, 116, 105, 101, 115]⟩ : ByteArray).size = 10 from rfl, show (⟨#[97, 100, 100, 105, 116, 105, 111, 110, 97, 108]⟩ : ByteArray).size = 10 from rfl]
                    omega
                  have := HBK.out.1
                  omega) (by have := HVS.out; have := HSW.out; omega) (by have := HBW.out; have := HBK.out; omega))
                rw [HKC.out, HGO.out] at HK3
                go_wp2_with fail
                with_reducible refine HK3.out.mono ?_; rintro e w8 ⟨rfl, hb8⟩
                have HA10 := Lib.hid (HA9.out.trans (hb8.mono HA9.out.size))
                clear HK3 hb8 e0 e1 e2 e3 e4 o0 o1 o2 o3 o4
                cases ka
                · skip
                  go_wp2_with fail
                  refine (live_c w8 (tabs_below HT.out HA10.out)).mono ?_; rintro e y1 ⟨rfl, hb14⟩
                  have HA14 := Lib.hid (HA10.out.trans (hb14.mono HA10.out.size))
                  clear hb14
                  go_wp2
                  go_ret
                  exact ⟨rfl, HB0.out.trans (HA14.out.mono HB0.out.size)⟩
                · skip
                  go_wp2_with fail
                  refine (live_c w8 (tabs_below HT.out HA10.out)).mono ?_; rintro e y1 ⟨rfl, hb14⟩
                  have HA14 := Lib.hid (HA10.out.trans (hb14.mono HA10.out.size))
                  clear hb14
                  go_wp2
                  go_ret
                  exact ⟨rfl, HB0.out.trans (HA14.out.mono HB0.out.size)⟩
end Go.Proofs.YtnmojmmgkipjcaaGreatDoor
