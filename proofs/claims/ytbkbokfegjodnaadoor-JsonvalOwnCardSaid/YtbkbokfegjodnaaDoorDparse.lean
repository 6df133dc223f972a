/- The walk of the document's Parse. Conditions: none. -/
import Derived.Test.YtbkbokfegjodnaaDoorDval
import Derived.Test.YtbkbokfegjodnaaDoorRdb
namespace Go.Proofs.YtbkbokfegjodnaaDoor
open Go.RowKit
theorem blk_below {w w' : World} {b : Nat} {o : Obj} (hb : Below w.heap.size w w') (h : w.heap[b]? = some o) : w'.heap[b]? = some o :=
  (hb.block b (Array.getElem?_eq_some_iff.1 h).1).trans h
theorem oset5d {w : World} {B b : Nat} {c0 c1 c2 c3 c4 : Value} (h : b ≠ B) : (((((w.setCell ⟨B, 0, none⟩ c0).setCell ⟨B, 1, none⟩ c1).setCell ⟨B, 2, none⟩ c2).setCell ⟨B, 3, none⟩ c3).setCell ⟨B, 4, none⟩ c4).drew.heap[b]? = w.drew.heap[b]? := by
  rw [show ∀ W : World, W.drew.heap = W.heap from fun _ => rfl, show ∀ W : World, W.drew.heap = W.heap from fun _ => rfl]
  exact other_set5 h
set_option maxHeartbeats 4000000 in
theorem dparse_long (s : ByteArray) (hs : 65536 < s.size) (w : World) : Calls Tryd.prog 17 #[.string s] w (ParsePost s w) := by
  have hl : (65536 : Int) < s.size := by omega
  have hj : jparse s.data.toList = .bad 1 0 := by unfold jparse; rw [toList_len, if_pos hs]
  have HJ := Lib.hid hj
  clear hj
  have hz := heap_alloc_new w (.cells #[.int .i64 0, .int .i64 0, .string ⟨#[]⟩, .slice none 0 0, .slice none 0 0] 28)
  obtain ⟨⟨z0, z1, z2, z3, z4⟩, y0, y1, y2, y3, y4⟩ := cellsOf5 hz
  have HZ := Lib.hid hz
  clear hz
  go_enter Tryd.func17, Tryd.ntmps17
  go_wp2
  (try simp only [Exit.inBlock, Exit.then])
  refine bodyPost_ret (results_cell2 rfl _ _ w.heap.size 28 _ (0, 0) _ (by rfl) (by first | exact HZ.out | exact set5 HZ.out) Tryd.underlying28 rfl (by kernel_rfl)) rfl ?_
  first
    | exact ⟨jnil 0, none, 0, none, 0, 1, 0, rfl, rep_flat 0 0 ⟨#[]⟩ (by omega) (by omega) (by decide) _ _, (Below.refl _ _).alloc (Nat.le_refl _) _, by rw [HJ.out]; exact ⟨rfl, rfl, rfl⟩⟩
    | exact ⟨jnil 0, none, 0, none, 0, 1, 0, rfl, rep_flat 0 0 ⟨#[]⟩ (by omega) (by omega) (by decide) _ _, below_set5 ((Below.refl _ _).alloc (Nat.le_refl _) _) (Nat.le_refl _), by rw [HJ.out]; exact ⟨rfl, rfl, rfl⟩⟩
set_option maxRecDepth 20000 in
set_option maxHeartbeats 8000000 in
theorem dparse_short (s : ByteArray) (hs : ¬ 65536 < s.size) (w : World) : Calls Tryd.prog 17 #[.string s] w (ParsePost s w) := by
  have hl : ¬ (65536 : Int) < s.size := by omega
  obtain ⟨res, hres⟩ : ∃ res, jparse s.data.toList = res := ⟨_, rfl⟩
  have HRES := Lib.hid hres
  unfold jparse at hres
  rw [toList_len, if_neg hs] at hres
  have hz := heap_alloc_new w (.cells #[.int .i64 0, .int .i64 0, .string ⟨#[]⟩, .slice none 0 0, .slice none 0 0] 28)
  have hb1 : Below w.heap.size w (w.alloc (.cells #[.int .i64 0, .int .i64 0, .string ⟨#[]⟩, .slice none 0 0, .slice none 0 0] 28)) := (Below.refl _ _).alloc (Nat.le_refl _) _
  have hsr := sr_new (w := w.alloc (.cells #[.int .i64 0, .int .i64 0, .string ⟨#[]⟩, .slice none 0 0, .slice none 0 0] 28)) (s := s) (T := 60)
  have hb2 : Below (w.alloc (.cells #[.int .i64 0, .int .i64 0, .string ⟨#[]⟩, .slice none 0 0, .slice none 0 0] 28)).heap.size (w.alloc (.cells #[.int .i64 0, .int .i64 0, .string ⟨#[]⟩, .slice none 0 0, .slice none 0 0] 28)) ((w.alloc (.cells #[.int .i64 0, .int .i64 0, .string ⟨#[]⟩, .slice none 0 0, .slice none 0 0] 28)).alloc (.cells #[.string s, .int .i64 0, .int .i64 0, .int .i64 0] 60)) := (Below.refl _ _).alloc (Nat.le_refl _) _
  have HZ := Lib.hid (blk_below hb2 hz)
  have HB := Lib.hid (below_trans hb1 hb2)
  have hs2 : ((w.alloc (.cells #[.int .i64 0, .int .i64 0, .string ⟨#[]⟩, .slice none 0 0, .slice none 0 0] 28)).alloc (.cells #[.string s, .int .i64 0, .int .i64 0, .int .i64 0] 60)).heap.size = w.heap.size + 2 := by simp
  simp only [World.size_alloc] at hsr
  have HS := Lib.hid hsr
  have hbl := dblanks_c (w.heap.size + 1) s 0 (by omega) _ hsr
  clear hz hb1 hb2 hsr hs
  go_enter Tryd.func17, Tryd.ntmps17
  go_wp2_with fail
  generalize ((w.alloc (.cells #[.int .i64 0, .int .i64 0, .string ⟨#[]⟩, .slice none 0 0, .slice none 0 0] 28)).alloc (.cells #[.string s, .int .i64 0, .int .i64 0, .int .i64 0] 60)) = w2 at *
  refine hbl.mono ?_; rintro e w3 ⟨rfl, q, hq, hqs, hdq, hS3, hU3⟩
  rw [List.drop_zero] at hdq
  rw [← hdq] at hres
  have hv := dvalue_all s (by omega) 64 (Nat.le_refl _) (w.heap.size + 1) q w3 hS3 0 (by omega)
  have HU3 := Lib.hid hU3
  clear hbl hS3 hU3 hdq HS
  obtain ⟨rv, hrv⟩ : ∃ x, jval s.size 64 (s.data.toList.drop q) = x := ⟨_, rfl⟩
  rw [hrv] at hv hres
  clear hrv
  go_wp2_with fail
  refine hv.mono ?_; rintro e w4 ⟨t, tan, tcn, tai, tci, rfl, hrep, hu4, hpost⟩
  clear hv
  have HU4 := Lib.hid (HU3.out.trans hu4)
  have hs4 := HU4.out.grown.size
  have hs3 := HU3.out.grown.size
  have HREP := Lib.hid hrep
  have bv4 : Below w4.heap.size w4 (w4.alloc (.cells #[.int .i64 t.kind, .int .i64 t.int, .string t.text, .slice tan t.names.length tcn, .slice tai t.items.length tci] 28)) := (Below.refl _ _).alloc (Nat.le_refl _) _
  have XV := heap_alloc_new w4 (.cells #[.int .i64 t.kind, .int .i64 t.int, .string t.text, .slice tan t.names.length tcn, .slice tai t.items.length tci] 28)
  have sv5 : (w4.alloc (.cells #[.int .i64 t.kind, .int .i64 t.int, .string t.text, .slice tan t.names.length tcn, .slice tai t.items.length tci] 28)).heap.size = w4.heap.size + 1 := by simp
  have hB4 : Below w.heap.size w (w4.alloc (.cells #[.int .i64 t.kind, .int .i64 t.int, .string t.text, .slice tan t.names.length tcn, .slice tai t.items.length tci] 28)) := (HB.out.trans (HU4.out.below (by rw [hs2]; omega) (fun g hg => by have := Option.some.inj hg; omega))).trans (bv4.mono (by omega))
  have HB5 := Lib.hid hB4
  have hz4 := (HU4.out.block (k := w.heap.size) (by rw [hs2]; omega) (fun e => by have := Option.some.inj e; omega)).trans HZ.out
  have HZ5 := Lib.hid (blk_below bv4 hz4)
  have HREP5 := Lib.hid (HREP.out.below bv4)
  clear hrep hB4 hz4 HREP HU3 hu4
  cases rv with
  | bad er pl =>
    have HR := Lib.hid (show JR.bad er pl = res from hres)
    have HF := Lib.hid ((show FltAt w4 (w.heap.size + 1) s er pl from hpost).below bv4)
    clear hres hpost XV
    go_wp2_with fail
    generalize (w4.alloc (.cells #[.int .i64 t.kind, .int .i64 t.int, .string t.text, .slice tan t.names.length tcn, .slice tai t.items.length tci] 28)) = w5 at *
    refine (dblanks_bad (w.heap.size + 1) s er pl w5 HF.out).mono ?_; rintro e w6 ⟨rfl, m, rfl⟩
    have HF6 := Lib.hid (HF.out.same (w' := w5.drewN m) rfl)
    have HB6 := Lib.hid (HB5.out.trans ((below_drewN' w5 m).mono (by have := HB5.out.size; omega)))
    have HZ6 := Lib.hid (show (w5.drewN m).heap[w.heap.size]? = _ from HZ5.out)
    clear HF HB5 HZ5
    generalize w5.drewN m = w6 at *
    have j2 := HF6.out.c2
    have j3 := HF6.out.c3
    have hne0 := HF6.out.ne
    have heb : (((er : Nat) : Int) == 0) = false := by rw [beq_eq_false_iff_ne]; omega
    have hen : (((er : Nat) : Int) != 0) = true := bne_of heb
    have HSS := Lib.hid (fun (W' : World) (hb : W'.heap[w.heap.size + 1]? = w6.drew.heap[w.heap.size + 1]?) => And.intro ((World.cell?_of_block (w := w6.drew) (a := ⟨w.heap.size + 1, 2, none⟩) hb).trans j2) ((World.cell?_of_block (w := w6.drew) (a := ⟨w.heap.size + 1, 3, none⟩) hb).trans j3))
    obtain ⟨⟨z0, z1, z2, z3, z4⟩, y0, y1, y2, y3, y4⟩ := cellsOf5 HZ6.out
    obtain ⟨⟨u0, u1, u2, u3, u4⟩, x0, x1, x2, x3, x4⟩ := cellsOf5 (show w6.drew.heap[w.heap.size]? = _ from HZ6.out)
    clear hne0
    go_wp2_with fail
    go_region_held3 (fun w' => w'.cell? ⟨w.heap.size + 1, 2, none⟩ = some (.int .i64 ((er : Nat) : Int)) ∧ w'.cell? ⟨w.heap.size + 1, 3, none⟩ = some (.int .i64 ((pl : Nat) : Int))) (exact HSS.out _ (by first | with_reducible rfl | with_reducible exact oset5d (Nat.succ_ne_self _))) (fail)
    go_wp2
    (try simp only [Exit.inBlock, Exit.then])
    refine bodyPost_ret (results_cell2 rfl _ _ w.heap.size 28 _ (0, 0) _ (by rfl) (set5d HZ6.out) Tryd.underlying28 rfl (by kernel_rfl)) rfl ?_
    exact ⟨jnil 0, none, 0, none, 0, er, pl, rfl, rep_flat 0 0 ⟨#[]⟩ (by omega) (by omega) (by decide) _ _, (below_set5 HB6.out (Nat.le_refl _)).drew, by rw [HRES.out, ← HR.out]; exact ⟨rfl, rfl, rfl⟩⟩
  | ok u r =>
    obtain ⟨hu, q2, hra, hq2, hq2s, hS4⟩ := hpost
    subst hu
    have hbl2 := dblanks_c (w.heap.size + 1) s q2 (by omega) _ (hS4.below bv4)
    have XV5 := Lib.hid XV
    clear hS4 XV
    go_wp2_with fail
    generalize (w4.alloc (.cells #[.int .i64 t.kind, .int .i64 t.int, .string t.text, .slice tan t.names.length tcn, .slice tai t.items.length tci] 28)) = w5 at *
    refine hbl2.mono ?_; rintro e w6 ⟨rfl, q3, hq3, hq3s, hd3, hS6, hU6⟩
    have hdj : s.data.toList.drop q3 = jbl r := hd3.trans hra.bl
    have h5s := HB5.out.size
    have HB6 := Lib.hid (HB5.out.trans (hU6.below (B := w.heap.size) h5s (fun g hg => by have := Option.some.inj hg; omega)))
    have HZ6 := Lib.hid ((hU6.block (k := w.heap.size) (by have := (Array.getElem?_eq_some_iff.1 HZ5.out).1; omega) (fun e => by have := Option.some.inj e; omega)).trans HZ5.out)
    have XV6 := Lib.hid ((hU6.block (k := w4.heap.size) (by omega) (fun e => by have := Option.some.inj e; omega)).trans XV5.out)
    have HREP6 := Lib.hid (Rep.kept (ok' := fun b => w.heap.size ≤ b ∧ b ≠ w.heap.size) (fun b hlt hb => ⟨⟨by omega, by omega⟩, hU6.block hlt (fun e => by have := Option.some.inj e; omega)⟩) _ _ HREP5.out)
    have HS6 := Lib.hid hS6
    clear hbl2 hU6 hS6 HZ5 XV5 HREP5 hra hd3
    obtain ⟨lz, hlz⟩ : ∃ x, s.data.toList.drop q3 = x := ⟨_, rfl⟩
    rw [← hdj, hlz] at hres
    have k1 := HS6.out.c1
    have k2 := HS6.out.c2
    simp only at k1 k2
    cases lz with
    | nil =>
      have HR := Lib.hid (show JR.ok t [] = res from hres)
      have hnl : ¬ q3 < s.size := drop_none hlz
      have hd9 : ¬ (q3 : Int) < (s.size : Int) := by omega
      obtain ⟨⟨v0, v1, v2, v3, v4⟩, _⟩ := cellsOf5 XV6.out
      obtain ⟨⟨z0, z1, z2, z3, z4⟩, y0, y1, y2, y3, y4⟩ := cellsOf5 HZ6.out
      clear hres hlz hdj
      go_wp2
      (try simp only [Exit.inBlock, Exit.then])
      refine bodyPost_ret (results_cell2 rfl _ _ w.heap.size 28 _ (0, 0) _ (by rfl) (set5 HZ6.out) Tryd.underlying28 rfl (by kernel_rfl)) rfl ?_
      exact ⟨t, tan, tcn, tai, tci, 0, 0, rfl, Rep.kept (fun b hlt hb => ⟨hb.1, other_set5 hb.2⟩) _ _ HREP6.out, below_set5 HB6.out (Nat.le_refl _), by rw [HRES.out, ← HR.out]; exact ⟨rfl, rfl, rfl⟩⟩
    | cons cz rz =>
      obtain ⟨hlz2, _, hzl⟩ := drop_parts hlz
      have HR := Lib.hid (show JR.bad 4 q3 = res from by rw [← hzl]; exact hres)
      have hd9 : (q3 : Int) < (s.size : Int) := by omega
      have hfl := dfail_c (w.heap.size + 1) s q3 4 q3 (by decide) w6 HS6.out
      clear hres hlz hdj XV6 HREP6
      go_wp2_with fail
      refine hfl.mono ?_; rintro e w7 ⟨rfl, hr7, hu7⟩
      have HF6 := Lib.hid hr7
      have h6s := HB6.out.size
      have HB7 := Lib.hid (HB6.out.trans (hu7.below (B := w.heap.size) h6s (fun g hg => by have := Option.some.inj hg; omega)))
      have HZ7 := Lib.hid ((hu7.block (k := w.heap.size) (by have := (Array.getElem?_eq_some_iff.1 HZ6.out).1; omega) (fun e => by have := Option.some.inj e; omega)).trans HZ6.out)
      clear hfl hr7 hu7 HB6 HZ6 HS6 k1 k2
      have HB6 := HB7
      have HZ6 := HZ7
      clear HB7 HZ7
      generalize w7 = w6 at *
      have er4 := HF6.out.ne
      have j2 := HF6.out.c2
      have j3 := HF6.out.c3
      have hne0 := HF6.out.ne
      have heb : (((4 : Nat) : Int) == 0) = false := by rw [beq_eq_false_iff_ne]; omega
      have hen : (((4 : Nat) : Int) != 0) = true := bne_of heb
      have HSS := Lib.hid (fun (W' : World) (hb : W'.heap[w.heap.size + 1]? = w6.drew.heap[w.heap.size + 1]?) => And.intro ((World.cell?_of_block (w := w6.drew) (a := ⟨w.heap.size + 1, 2, none⟩) hb).trans j2) ((World.cell?_of_block (w := w6.drew) (a := ⟨w.heap.size + 1, 3, none⟩) hb).trans j3))
      obtain ⟨⟨z0, z1, z2, z3, z4⟩, y0, y1, y2, y3, y4⟩ := cellsOf5 HZ6.out
      obtain ⟨⟨u0, u1, u2, u3, u4⟩, x0, x1, x2, x3, x4⟩ := cellsOf5 (show w6.drew.heap[w.heap.size]? = _ from HZ6.out)
      clear hne0
      go_wp2_with fail
      go_region_held3 (fun w' => w'.cell? ⟨w.heap.size + 1, 2, none⟩ = some (.int .i64 ((4 : Nat) : Int)) ∧ w'.cell? ⟨w.heap.size + 1, 3, none⟩ = some (.int .i64 ((q3 : Nat) : Int))) (exact HSS.out _ (by first | with_reducible rfl | with_reducible exact oset5d (Nat.succ_ne_self _))) (fail)
      go_wp2
      (try simp only [Exit.inBlock, Exit.then])
      refine bodyPost_ret (results_cell2 rfl _ _ w.heap.size 28 _ (0, 0) _ (by rfl) (set5d HZ6.out) Tryd.underlying28 rfl (by kernel_rfl)) rfl ?_
      exact ⟨jnil 0, none, 0, none, 0, 4, q3, rfl, rep_flat 0 0 ⟨#[]⟩ (by omega) (by omega) (by decide) _ _, (below_set5 HB6.out (Nat.le_refl _)).drew, by rw [HRES.out, ← HR.out]; exact ⟨rfl, rfl, rfl⟩⟩
theorem dparse_c (s : ByteArray) (w : World) : Calls Tryd.prog 17 #[.string s] w (ParsePost s w) := by
  by_cases h : 65536 < s.size
  · exact dparse_long s h w
  · exact dparse_short s h w
end Go.Proofs.YtbkbokfegjodnaaDoor
