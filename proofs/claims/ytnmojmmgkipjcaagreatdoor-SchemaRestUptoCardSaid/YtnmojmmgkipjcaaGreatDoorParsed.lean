/- The walk of Parse. Conditions: what the tree holds is at most 2 to the 40; the tables of utf8 lie as their texts lay them. -/
import Derived.Test.YtnmojmmgkipjcaaGreatDoorPlaina
import Derived.Defers
import Derived.Recover
import Derived.Deep.RegionLaw
import Derived.Test.YtnmojmmgkipjcaaGreatDoorSrs
import Derived.Test.YtnmojmmgkipjcaaGreatDoorCheckw
namespace Go.Proofs.YtnmojmmgkipjcaaGreatDoor
open Go.RowKit
theorem run_loadVar_one {P : Program} (w : World) (a : Nat) (ty : TypeId) (v : Value) (d : TypeDesc) (hu : P.underlying ty = some d) (hd : (match d with | .struct _ | .array _ _ => true | _ => false) = false) (hc : w.cell? ⟨a, 0, none⟩ = some v) :
    (loadVar ty ⟨a, 0, none⟩).run P w = .ok v w := by
  have hagg : (isAgg ty).run P w = .ok false w := by
    unfold isAgg
    rw [Sem.run_bind, run_underlying hu w]
    cases d <;> simp_all
  simp [loadVar, Sem.run_bind, hagg, go_sem, hc]
theorem results_cells {P : Program} {fn : Func} {q u : Tmp} {t2 t3 : TypeId} (h : fn.results = #[.cell q t2, .cell u t3]) (tmps : Array Value) (w : World) (a b : Nat) (d2 d3 : TypeDesc) (x y : Value)
    (hq : tmps.getD q undef = .pointer (some ⟨a, 0, none⟩)) (hr : tmps.getD u undef = .pointer (some ⟨b, 0, none⟩))
    (ha : w.cell? ⟨a, 0, none⟩ = some x) (hb : w.cell? ⟨b, 0, none⟩ = some y)
    (hu2 : P.underlying t2 = some d2) (hd2 : (match d2 with | .struct _ | .array _ _ => true | _ => false) = false)
    (hu3 : P.underlying t3 = some d3) (hd3 : (match d3 with | .struct _ | .array _ _ => true | _ => false) = false) :
    (results fn tmps).run P w = .ok (.tuple #[x, y]) w := by
  have hq' : tmps[q]?.getD undef = .pointer (some ⟨a, 0, none⟩) := by simpa using hq
  have hr' : tmps[u]?.getD undef = .pointer (some ⟨b, 0, none⟩) := by simpa using hr
  simp [results, h, hq', hr', asAddr, run_loadVar_one w a t2 x d2 hu2 hd2 ha, run_loadVar_one w b t3 y d3 hu3 hd3 hb]
theorem frame18 (a b : Value) : (#[a, b] ++ Array.replicate 16 undef : Array Value) = #[a, b, undef, undef, undef, undef, undef, undef, undef, undef, undef, undef, undef, undef, undef, undef, undef, undef] := rfl
theorem refused_is (v : Value) (w : World) : (Instr.typeAssert (.iface 58 v) 20 58 true).run Tryz.prog w = .ok (.tuple #[v, .bool true]) w := by
  simp [Instr.typeAssert, run_underlying Tryz.underlying58, go_sem, Result.andThen]
set_option maxRecDepth 20000 in
set_option maxHeartbeats 4000000 in
theorem catch_p (B E : Nat) (x y : Value) (T2 T3 : TypeId) (w : World) (hv : w.heap[B]? = some (.cells #[x] T2 (0, 0))) (he : w.heap[B + 1]? = some (.cells #[y] T3 (0, 0))) :
    CallsD Tryz.prog 24 #[.pointer (some ⟨B, 0, none⟩), .pointer (some ⟨B + 1, 0, none⟩)]
      (.panicking [{ v := .iface 58 (.agg #[.int .i64 (E : Int)]), recovered := false }]) w fun e u' w' =>
      e = .returned (.tuple #[]) ∧ u' = .panicking [{ v := .iface 58 (.agg #[.int .i64 (E : Int)]), recovered := true }] ∧
      w' = World.drew (((w.setCell ⟨B, 0, none⟩ (.pointer none)).setCell ⟨B + 1, 0, none⟩ (.int .i64 (E : Int))).alloc (.cells #[.int .i64 (E : Int)] 58)) := by
  have hta := refused_is (.agg #[.int .i64 (E : Int)])
  have z0 := cell_of_row w _ 0 _ _ _ hv
  have y0 := frozen_of_row w _ 0 _ _ hv
  have e0 := cell_of_row w _ 0 _ _ _ he
  have e1 := frozen_of_row w _ 0 _ _ he
  have hl0 := (Array.getElem?_eq_some_iff.1 hv).1
  have hl1 := (Array.getElem?_eq_some_iff.1 he).1
  refine callsD_of_wpS Tryz.func24 rfl fun c₀ cs hu => ?_
  simp only [Tryz.ntmps24, List.size_toArray, List.length_cons, List.length_nil, Nat.reduceAdd, Nat.reduceSub]
  rw [frame18]
  apply wpS_seq
  apply wpS_region
  simp [wpOpsS, go_sem, recoverD, hu, Exit.thenS]
  refine wpS_of_wp ?_
  go_wp2
  go_region_law (fail)
  all_goals (show bodyPostS _ _ _ _ _ _ _ _ _; simp [bodyPostS, results, Tryz.results24])
set_option maxHeartbeats 1000000 in
theorem catch_r (a b : Value) (w : World) :
    CallsD Tryz.prog 24 #[a, b] .returning w fun e u' w' => e = .returned (.tuple #[]) ∧ u' = .returning ∧ w' = w := by
  refine callsD_of_wpS Tryz.func24 rfl fun c₀ cs hu => ?_
  simp only [Tryz.ntmps24, List.size_toArray, List.length_cons, List.length_nil, Nat.reduceAdd, Nat.reduceSub]
  rw [frame18]
  apply wpS_seq
  apply wpS_region
  simp [wpOpsS, go_sem, recoverD, hu, Exit.thenS]
  refine wpS_of_wp ?_
  go_wp2
  show bodyPostS _ _ _ _ _ _ _ _ _
  cases c₀
  simp_all [bodyPostS, results, Tryz.results24]
end Go.Proofs.YtnmojmmgkipjcaaGreatDoor
namespace Go.Proofs.YtnmojmmgkipjcaaGreatDoor
open Go.RowKit
theorem schema_all : ∀ m : Nat, SchemaSaid m
  | 0 => fun t hm => by have := JV.size_pos t; omega
  | m + 1 => schema_step m (schema_all m)
theorem tabs_upd {w w' : World} {R : Nat} (hT : Lib.Utf8Tabs 0 1 w) (hu : Upd w w' (some R) (some R)) (hR : 2 ≤ R) : Lib.Utf8Tabs 0 1 w' :=
  ⟨fun c hc => hu.cell (hT.1 c hc) (fun e => by have h : R = 0 := Option.some.inj e; omega), fun i hi => ⟨hu.cell (hT.2 i hi).1 (fun e => by have h : R = 1 := Option.some.inj e; omega), hu.cell (hT.2 i hi).2 (fun e => by have h : R = 1 := Option.some.inj e; omega)⟩⟩
theorem tabs_below {w w' : World} (hT : Lib.Utf8Tabs 0 1 w) (hb : Below w.heap.size w w') : Lib.Utf8Tabs 0 1 w' := tabs_upd hT (Upd.of_below hb (some 2)) (Nat.le_refl _)
/-- what Parse answers -/
def PaBad (w : World) (E : Int) (e : Ending) (w' : World) : Prop := e = .returned (.tuple #[.pointer none, .int .i64 E]) ∧ Below w.heap.size w w'
def PaOk (w : World) (ok : Nat → Prop) (t : JV) (m : Nat) (e : Ending) (w' : World) : Prop :=
  ∃ p : Nat, e = .returned (.tuple #[.pointer (some ⟨p, 0, none⟩), .int .i64 0]) ∧ Hid (SchAt w' (OkN ok w) t (.pointer (some ⟨p, 0, none⟩))) ∧ Hid (w'.cell? ⟨p, 1, none⟩ = some (.int .i64 (m : Int))) ∧ Hid (Below w.heap.size w w')
/-- the two boxes of the results -/
theorem boxes_new (w : World) (o : Obj) : ((((w.alloc o).alloc (.cells #[.pointer none] 39)).alloc (.cells #[.int .i64 0] 40)).heap[w.heap.size + 1]? = some (.cells #[.pointer none] 39 (0, 0)) ∧
    (((w.alloc o).alloc (.cells #[.pointer none] 39)).alloc (.cells #[.int .i64 0] 40)).heap[w.heap.size + 1 + 1]? = some (.cells #[.int .i64 0] 40 (0, 0))) ∧
    Below w.heap.size w (((w.alloc o).alloc (.cells #[.pointer none] 39)).alloc (.cells #[.int .i64 0] 40)) := by
  have h1 := heap_alloc_new (w.alloc o) (.cells #[.pointer none] 39)
  have h2 := heap_alloc_new ((w.alloc o).alloc (.cells #[.pointer none] 39)) (.cells #[.int .i64 0] 40)
  simp only [World.size_alloc] at h1 h2
  exact ⟨⟨(heap_alloc_old _ _ (by simp)).trans h1, h2⟩, (by repeat (first | with_reducible exact Below.refl _ _ | with_reducible refine below_drewN ?_ _ | with_reducible refine Below.drew ?_ | with_reducible refine below_set5 ?_ (by first | (simp; done) | (simp; omega)) | with_reducible refine Below.alloc ?_ (by first | (simp; done) | (simp; omega)) _ | with_reducible refine Below.setCell ?_ (by first | (simp; done) | (simp; omega)) _))⟩
/-- what the stores leave -/
theorem two_set {w w1 : World} {B : Nat} {x y u v : Value} {T2 T3 : TypeId} (h1 : w1.heap[B]? = some (.cells #[x] T2 (0, 0))) (h2 : w1.heap[B + 1]? = some (.cells #[y] T3 (0, 0))) (hb : Below w.heap.size w w1) (hB : w.heap.size ≤ B) :
    ((w1.setCell ⟨B, 0, none⟩ u).setCell ⟨B + 1, 0, none⟩ v).cell? ⟨B, 0, none⟩ = some u ∧ ((w1.setCell ⟨B, 0, none⟩ u).setCell ⟨B + 1, 0, none⟩ v).cell? ⟨B + 1, 0, none⟩ = some v ∧ Below w.heap.size w ((w1.setCell ⟨B, 0, none⟩ u).setCell ⟨B + 1, 0, none⟩ v) ∧
    ∀ b, b ≠ B → b ≠ B + 1 → ((w1.setCell ⟨B, 0, none⟩ u).setCell ⟨B + 1, 0, none⟩ v).heap[b]? = w1.heap[b]? := by
  have c1 := cell_of_row w1 _ 0 _ _ _ h1
  have c2 := cell_of_row w1 _ 0 _ _ _ h2
  refine ⟨?_, ?_, (hb.setCell (by simp; omega) _).setCell (by simp; omega) _, fun b e1 e2 => ?_⟩
  · rw [setO (by simp)]; exact setS c1
  · exact setS (by rw [setO (by simp)]; exact c2)
  · rw [heap_setCell_other _ _ _ _ e2, heap_setCell_other _ _ _ _ e1]
section
variable (t : JV) (hbk : t.bulk ≤ 1099511627776) (cs : List Value) (w : World) (ok : Nat → Prop) (hr : Rep w ok t cs) (hT : Lib.Utf8Tabs 0 1 w)
include hbk hr hT
set_option maxRecDepth 20000 in
set_option maxHeartbeats 4000000 in
theorem parse_chk (h0 : chk t 0 ≠ 0) : Calls Tryz.prog 13 #[.agg cs.toArray] w (PaBad w (chk t 0)) := by
  obtain ⟨an, cn, ai, ci, rfl⟩ := hr.form
  obtain ⟨hbx, hbl⟩ := boxes_new w (.cells #[.int .i64 t.kind, .int .i64 t.int, .string t.text, .slice an t.names.length cn, .slice ai t.items.length ci] 25)
  have HCK := Lib.hid (check_c t hbk _ _ ok (hr.below hbl) (tabs_below hT hbl))
  have HBX := Lib.hid hbx
  have HBL := Lib.hid hbl
  have hsz := hbl.size
  simp only [World.size_alloc] at hsz
  have hne : (chk t 0 != 0) = true := by simp [h0]
  generalize chk t 0 = z at *
  clear h0 hbx hbl hr hT
  go_enter_defers Tryz.func13, Tryz.ntmps13
  go_wp2_with fail
  refine HCK.out.mono ?_; rintro e w1 ⟨rfl, hb1⟩
  have h1 := (hb1.block (w.heap.size + 1) (by simp)).trans HBX.out.1
  have h2 := (hb1.block (w.heap.size + 1 + 1) (by simp)).trans HBX.out.2
  have c1 := cell_of_row w1 _ 0 _ _ _ h1
  have f1 := frozen_of_row w1 _ 0 _ _ h1
  have c2 := cell_of_row w1 _ 0 _ _ _ h2
  have f2 := frozen_of_row w1 _ 0 _ _ h2
  simp only [List.getElem?_toArray, List.getElem?_cons_zero] at c1 c2
  have H1 := Lib.hid (And.intro h1 h2)
  have HBB := Lib.hid (HBL.out.trans (hb1.mono HBL.out.size))
  clear hb1 h1 h2
  go_wp2
  obtain ⟨g1, g2, g3, -⟩ := two_set (w := w) (u := .pointer none) (v := .int .i64 z) H1.out.1 H1.out.2 HBB.out (by omega)
  refine ⟨_, results_cells rfl _ _ (w.heap.size + 1) (w.heap.size + 1 + 1) _ _ _ _ (by rfl) (by rfl) g1 g2 Tryz.underlying39 rfl Tryz.underlying40 rfl, ?_⟩
  exact ⟨rfl, g3⟩
set_option maxRecDepth 20000 in
set_option maxHeartbeats 8000000 in
theorem parse_bad (h0 : chk t 0 = 0) (E : Nat) (hrs : readS t 0 0 = .bad E) : Calls Tryz.prog 13 #[.agg cs.toArray] w (PaBad w (E : Int)) := by
  have hr0 := hr
  obtain ⟨an, cn, ai, ci, rfl⟩ := hr.form
  obtain ⟨hbx, hbl⟩ := boxes_new w (.cells #[.int .i64 t.kind, .int .i64 t.int, .string t.text, .slice an t.names.length cn, .slice ai t.items.length ci] 25)
  have HCK := Lib.hid (check_c t hbk _ _ ok (hr.below hbl) (tabs_below hT hbl))
  rw [h0] at HCK
  have hX : (((w.alloc (.cells #[.int .i64 t.kind, .int .i64 t.int, .string t.text, .slice an t.names.length cn, .slice ai t.items.length ci] 25)).alloc (.cells #[.pointer none] 39)).alloc (.cells #[.int .i64 0] 40)).heap[w.heap.size]? = some (.cells #[.int .i64 t.kind, .int .i64 t.int, .string t.text, .slice an t.names.length cn, .slice ai t.items.length ci] 25 (0, 0)) :=
    (heap_alloc_old _ _ (by simp; omega)).trans ((heap_alloc_old _ _ (by simp)).trans (heap_alloc_new w _))
  have HBX := Lib.hid hbx
  have HBL := Lib.hid hbl
  have HX := Lib.hid hX
  have HOK := Lib.hid (okU_chk t 0 h0)
  have HBK := Lib.hid hbk
  have HR := Lib.hid (Rep.kept (ok' := fun b => ok b ∧ b < w.heap.size) (fun b hlt ho => ⟨⟨ho, hlt⟩, rfl⟩) _ _ hr0)
  have hsz := hbl.size
  simp only [World.size_alloc] at hsz
  have hmf : ∀ (fn : Fn) (first cap : Array Value) (w : World), (Instr.makeFunc fn first cap).run Tryz.prog w = .ok (.func fn first cap) w := fun _ _ _ _ => rfl
  have HRS := Lib.hid hrs
  clear h0 hbx hbl hr hr0 hT hX hbk hrs
  go_enter_defers Tryz.func13, Tryz.ntmps13
  go_wp2_with fail
  refine HCK.out.mono ?_; rintro e w1 ⟨rfl, hb1⟩
  have hs1 := hb1.size
  simp only [World.size_alloc] at hs1
  have hwl : w.heap.size < w1.heap.size := by omega
  have hX1 := (hb1.block w.heap.size (by simp; omega)).trans HX.out
  obtain ⟨⟨a0, a1, a2, a3, a4⟩, _⟩ := cellsOf5 hX1
  have H1 := Lib.hid (And.intro ((hb1.block (w.heap.size + 1) (by simp)).trans HBX.out.1) ((hb1.block (w.heap.size + 1 + 1) (by simp)).trans HBX.out.2))
  have HBB := Lib.hid (HBL.out.trans (hb1.mono HBL.out.size))
  clear hb1 hX1
  have hbR : Below w1.heap.size w1 (w1.alloc (.cells #[.int .i64 0] 62)) := (Below.refl _ _).alloc (Nat.le_refl _) _
  have HBR := Lib.hid (HBB.out.trans (hbR.mono HBB.out.size))
  have hS := (schema_all t.size t (Nat.le_refl _) HOK.out HBK.out 0 0 (by omega) (by omega) _ (w1.alloc (.cells #[.int .i64 0] 62)) (fun b => ok b ∧ b < w.heap.size) w1.heap.size (fun h => by omega) (HR.out.below HBR.out) (show RdrAt _ _ 0 from heap_alloc_new w1 _))
  rw [HRS.out, show ((0 : Nat) : Int) = 0 from rfl] at hS
  have HS := Lib.hid hS
  clear hS
  have H1b := Lib.hid (And.intro ((hbR.block (w.heap.size + 1) (by omega)).trans H1.out.1) ((hbR.block (w.heap.size + 1 + 1) (by omega)).trans H1.out.2))
  clear hbR
  go_wp2_with fail
  refine HS.out.mono ?_; rintro e w2 ⟨rfl, HU⟩
  have h1 := (HU.out.block (k := w.heap.size + 1) (by simp only [World.size_alloc]; omega) (fun e => by injection e with e; omega)).trans H1b.out.1
  have h2 := (HU.out.block (k := w.heap.size + 1 + 1) (by simp only [World.size_alloc]; omega) (fun e => by injection e with e; omega)).trans H1b.out.2
  have hbl2 := HBR.out.trans (HU.out.below (by simp only [World.size_alloc]; omega) (fun g e => by injection e with e; omega))
  have hsz2 := HU.out.grown.size
  simp only [World.size_alloc] at hsz2
  have HH := Lib.hid (And.intro h1 (And.intro h2 hbl2))
  clear h1 h2 hbl2
  unfold refV
  go_wp2
  refine leaves_cons (f := 24) (args := #[.pointer (some ⟨w.heap.size + 1, 0, none⟩), .pointer (some ⟨w.heap.size + 1 + 1, 0, none⟩)]) (by simp) (by simp [go_sem]) ?_
  refine (catch_p (w.heap.size + 1) E _ _ _ _ _ HH.out.1 HH.out.2.1).mono ?_
  rintro e u' w9 ⟨rfl, rfl, hw9⟩
  obtain ⟨g1, g2, g3, -⟩ := two_set (w := w) (u := .pointer none) (v := .int .i64 (E : Int)) HH.out.1 HH.out.2.1 HH.out.2.2 (by omega)
  have hb9 : Below w.heap.size w w9 := by rw [hw9]; exact (g3.alloc g3.size _).drew
  have g1' : w9.cell? ⟨w.heap.size + 1, 0, none⟩ = some (.pointer none) := by rw [hw9]; exact cell_below ((Below.refl _ _).alloc (Nat.le_refl _) _).drew g1
  have g2' : w9.cell? ⟨w.heap.size + 1 + 1, 0, none⟩ = some (.int .i64 (E : Int)) := by rw [hw9]; exact cell_below ((Below.refl _ _).alloc (Nat.le_refl _) _).drew g2
  clear hw9
  show Leaves _ _ _ _ _ (settle _) _
  simp only [settle]
  refine ⟨_, results_cells rfl _ _ (w.heap.size + 1) (w.heap.size + 1 + 1) _ _ _ _ (by rfl) (by rfl) g1' g2' Tryz.underlying39 rfl Tryz.underlying40 rfl, ?_⟩
  exact ⟨rfl, hb9⟩
set_option maxRecDepth 20000 in
set_option maxHeartbeats 8000000 in
theorem parse_ok (h0 : chk t 0 = 0) (m : Nat) (hrs : readS t 0 0 = .ok m) : Calls Tryz.prog 13 #[.agg cs.toArray] w (PaOk w ok t m) := by
  have hr0 := hr
  obtain ⟨an, cn, ai, ci, rfl⟩ := hr.form
  obtain ⟨hbx, hbl⟩ := boxes_new w (.cells #[.int .i64 t.kind, .int .i64 t.int, .string t.text, .slice an t.names.length cn, .slice ai t.items.length ci] 25)
  have HCK := Lib.hid (check_c t hbk _ _ ok (hr.below hbl) (tabs_below hT hbl))
  rw [h0] at HCK
  have hX : (((w.alloc (.cells #[.int .i64 t.kind, .int .i64 t.int, .string t.text, .slice an t.names.length cn, .slice ai t.items.length ci] 25)).alloc (.cells #[.pointer none] 39)).alloc (.cells #[.int .i64 0] 40)).heap[w.heap.size]? = some (.cells #[.int .i64 t.kind, .int .i64 t.int, .string t.text, .slice an t.names.length cn, .slice ai t.items.length ci] 25 (0, 0)) :=
    (heap_alloc_old _ _ (by simp; omega)).trans ((heap_alloc_old _ _ (by simp)).trans (heap_alloc_new w _))
  have HBX := Lib.hid hbx
  have HBL := Lib.hid hbl
  have HX := Lib.hid hX
  have HOK := Lib.hid (okU_chk t 0 h0)
  have HBK := Lib.hid hbk
  have HR := Lib.hid (Rep.kept (ok' := fun b => ok b ∧ b < w.heap.size) (fun b hlt ho => ⟨⟨ho, hlt⟩, rfl⟩) _ _ hr0)
  have hsz := hbl.size
  simp only [World.size_alloc] at hsz
  have hmf : ∀ (fn : Fn) (first cap : Array Value) (w : World), (Instr.makeFunc fn first cap).run Tryz.prog w = .ok (.func fn first cap) w := fun _ _ _ _ => rfl
  have HRS := Lib.hid hrs
  clear h0 hbx hbl hr hr0 hT hX hbk hrs
  go_enter_defers Tryz.func13, Tryz.ntmps13
  go_wp2_with fail
  refine HCK.out.mono ?_; rintro e w1 ⟨rfl, hb1⟩
  have hs1 := hb1.size
  simp only [World.size_alloc] at hs1
  have hwl : w.heap.size < w1.heap.size := by omega
  have hX1 := (hb1.block w.heap.size (by simp; omega)).trans HX.out
  obtain ⟨⟨a0, a1, a2, a3, a4⟩, _⟩ := cellsOf5 hX1
  have H1 := Lib.hid (And.intro ((hb1.block (w.heap.size + 1) (by simp)).trans HBX.out.1) ((hb1.block (w.heap.size + 1 + 1) (by simp)).trans HBX.out.2))
  have HBB := Lib.hid (HBL.out.trans (hb1.mono HBL.out.size))
  clear hb1 hX1
  have hbR : Below w1.heap.size w1 (w1.alloc (.cells #[.int .i64 0] 62)) := (Below.refl _ _).alloc (Nat.le_refl _) _
  have HBR := Lib.hid (HBB.out.trans (hbR.mono HBB.out.size))
  have hS := (schema_all t.size t (Nat.le_refl _) HOK.out HBK.out 0 0 (by omega) (by omega) _ (w1.alloc (.cells #[.int .i64 0] 62)) (fun b => ok b ∧ b < w.heap.size) w1.heap.size (fun h => by omega) (HR.out.below HBR.out) (show RdrAt _ _ 0 from heap_alloc_new w1 _))
  rw [HRS.out, show ((0 : Nat) : Int) = 0 from rfl] at hS
  have HS := Lib.hid hS
  clear hS
  have H1b := Lib.hid (And.intro ((hbR.block (w.heap.size + 1) (by omega)).trans H1.out.1) ((hbR.block (w.heap.size + 1 + 1) (by omega)).trans H1.out.2))
  clear hbR
  go_wp2_with fail
  refine HS.out.mono ?_; rintro e w2 ⟨p, rfl, HSC, HNC, -, HU⟩
  have h1 := (HU.out.block (k := w.heap.size + 1) (by simp only [World.size_alloc]; omega) (fun e => by injection e with e; omega)).trans H1b.out.1
  have h2 := (HU.out.block (k := w.heap.size + 1 + 1) (by simp only [World.size_alloc]; omega) (fun e => by injection e with e; omega)).trans H1b.out.2
  have hbl2 := HBR.out.trans (HU.out.below (by simp only [World.size_alloc]; omega) (fun g e => by injection e with e; omega))
  have hsz2 := HU.out.grown.size
  simp only [World.size_alloc] at hsz2
  have HH := Lib.hid (And.intro h1 (And.intro h2 hbl2))
  have c1 := cell_of_row w2 _ 0 _ _ _ h1
  have f1 := frozen_of_row w2 _ 0 _ _ h1
  have c2 := cell_of_row w2 _ 0 _ _ _ h2
  have f2 := frozen_of_row w2 _ 0 _ _ h2
  simp only [List.getElem?_toArray, List.getElem?_cons_zero] at c1 c2
  clear h1 h2 hbl2
  go_wp2
  refine leaves_cons (f := 24) (args := #[.pointer (some ⟨w.heap.size + 1, 0, none⟩), .pointer (some ⟨w.heap.size + 1 + 1, 0, none⟩)]) (by simp) (by simp [go_sem]) ?_
  refine (catch_r _ _ _).mono ?_
  rintro e u' w9 ⟨rfl, rfl, hw9⟩
  obtain ⟨g1, g2, g3, g4⟩ := two_set (w := w) (u := .pointer (some ⟨p, 0, none⟩)) (v := .int .i64 0) HH.out.1 HH.out.2.1 HH.out.2.2 (by omega)
  have hk : ∀ b, b < w2.heap.size → OkN (fun b => ok b ∧ b < w.heap.size) (w1.alloc (.cells #[.int .i64 0] 62)) b → OkN ok w b ∧ ((w2.setCell ⟨w.heap.size + 1, 0, none⟩ (.pointer (some ⟨p, 0, none⟩))).setCell ⟨w.heap.size + 1 + 1, 0, none⟩ (.int .i64 0)).heap[b]? = w2.heap[b]? := fun b _ ho => by
    rcases ho with ho | ho
    · exact ⟨.inl ho.1, g4 b (by omega) (by omega)⟩
    · simp only [World.size_alloc] at ho
      exact ⟨.inr (by omega), g4 b (by omega) (by omega)⟩
  have hp : OkN (fun b => ok b ∧ b < w.heap.size) (w1.alloc (.cells #[.int .i64 0] 62)) p := by
    have h := HSC.out
    obtain ⟨k, i, s, ns, is⟩ := t
    rw [SchAt] at h
    obtain ⟨p', _, _, _, e, h2, _⟩ := h
    injection e with e; injection e with e; injection e with e
    rw [e]; exact h2
  have hpl : p < w2.heap.size := cell_lt HNC.out
  subst hw9
  show Leaves _ _ _ _ _ (settle _) _
  simp only [settle]
  refine ⟨_, results_cells rfl _ _ (w.heap.size + 1) (w.heap.size + 1 + 1) _ _ _ _ (by rfl) (by rfl) g1 g2 Tryz.underlying39 rfl Tryz.underlying40 rfl, ?_⟩
  refine ⟨p, rfl, Lib.hid (SchAt.kept hk _ _ HSC.out), Lib.hid ?_, Lib.hid g3⟩
  rw [World.cell?_of_block (w := w2) (hk p hpl hp).2]
  have h := HNC.out
  rwa [show ((m : Int) - ((0 : Nat) : Int)) = (m : Int) by omega] at h
end
end Go.Proofs.YtnmojmmgkipjcaaGreatDoor
