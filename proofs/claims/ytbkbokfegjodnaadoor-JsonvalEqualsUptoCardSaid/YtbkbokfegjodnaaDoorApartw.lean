/- The walk of apart: whether each list under a value lies alone. Conditions: each list is a row of its own. -/
import Derived.Test.YtbkbokfegjodnaaDoorAparth
import Derived.Test.YtbkbokfegjodnaaDoorDigw
namespace Go.Proofs.YtbkbokfegjodnaaDoor
open Go.RowKit
set_option maxRecDepth 20000 in
set_option maxHeartbeats 16000000 in
theorem apart_c (t : JV) (cs : List Value) (F : List Nat) (w : World) (hr : RepF w t cs F) (hnd : F.Nodup) (hbk : t.bulk ≤ 1099511627776) :
    Calls Tryd.prog 23 #[.agg cs.toArray] w fun e w' => e = .returned (.bool true) ∧ Turn (fun g => g ∈ F) w w' := by
  have hFl := RepF.lt _ _ _ hr
  obtain ⟨pan, pcn, pai, pci, rfl⟩ := hr.form
  have hb0 : Below w.heap.size w (w.alloc (.cells #[.int .i64 t.kind, .int .i64 t.int, .string t.text, .slice pan t.names.length pcn, .slice pai t.items.length pci] 28)) := (Below.refl _ _).alloc (Nat.le_refl _) _
  obtain ⟨⟨z0, z1, z2, z3, z4⟩, zf⟩ := cellsOf5 (heap_alloc_new w (.cells #[.int .i64 t.kind, .int .i64 t.int, .string t.text, .slice pan t.names.length pcn, .slice pai t.items.length pci] 28))
  have hu := under_c t _ F _ (hr.below hb0) hbk
  have HB0 := Lib.hid hb0
  clear hb0 hr zf
  go_enter Tryd.func23, Tryd.ntmps23
  go_wp2_with fail
  clear z0 z1 z2 z3 z4
  refine hu.mono ?_; rintro e w1 ⟨a, c, hs, rfl, hrow, hfr, rfl, hok, hlen, hpos, hbl⟩
  have hbl1 : Below w.heap.size w w1 := below_trans HB0.out hbl
  have hle : hs.length ≤ 1099511627776 := by omega
  have hsz0 := HB0.out.size
  have ha : ∀ b ∈ ownA a, b ∉ hs.flatMap Hd.own := fun b hb hm => by have := hfr b hb; have := hFl b hm; omega
  have hnb : ∀ (q : Nat) (x : Hd), hs[q]? = some x → x.nn ≤ 1099511627776 ∧ x.mm ≤ 1099511627776 := fun q x hx => (hok x (List.mem_of_getElem? hx)).2.2
  have H0 := Lib.hid (show ApA w hs a c 0 w1 from ⟨Turn.of_below hbl1, hrow, fun q x _ hq => absurd hq (Nat.not_lt_zero _), fun q x hx _ => hok x (List.mem_of_getElem? hx)⟩)
  clear hu hrow hfr hok hbl hbl1 hsz0 HB0 hbk hlen
  go_wp2_with fail
  go_loopw [4, 5, 6] (fun i _ _ wr => ∃ j : Nat, j ≤ hs.length ∧ i = .int .i64 j ∧ Hid (ApA w hs a c j wr)) (fun i _ _ _ => hs.length - (intOf i).toNat)
  case atStart => exact ⟨0, by omega, rfl, H0⟩
  case round =>
    clear H0
    obtain ⟨i, hi, rfl, H⟩ := hrel
    by_cases hlt : i < hs.length
    · obtain ⟨x, hx⟩ : ∃ x, hs[i]? = some x := ⟨_, List.getElem?_eq_getElem hlt⟩
      obtain ⟨wA, rfl⟩ : ∃ wA, wA = wr := ⟨wr, rfl⟩
      obtain ⟨g, hg, hlie⟩ := hd_lie H.out.row hx
      have hgo : g ∉ x.own := fun e => ha g (by rw [hg]; simp [ownA]) (own_mem hx g e)
      subst hg
      obtain ⟨hn1, hm1⟩ := hnb i x hx
      have okx := H.out.ok i x hx (Nat.le_refl _)
      have HI := Lib.hid (show ApI wA x i 0 wA from ⟨Turn.refl _ _, okx.1, okx.2.1.elim fun ys hy => ⟨ys, hy, by rw [Nat.zero_mul]; rfl⟩⟩)
      have HL := Lib.hid hlie
      clear okx hlie
      go_wp2_with fail
      go_loopw [5] (fun k wq => ∃ j : Nat, j ≤ x.mm ∧ k = .int .i64 j ∧ Hid (ApI wA x i j wq)) (fun k _ => x.mm - (intOf k).toNat)
      case atStart => exact ⟨0, by omega, rfl, HI⟩
      case round =>
        clear HI
        obtain ⟨j, hj, rfl, HI⟩ := hrel
        have l4 := cell_turn HI.out.turn (HL.out 4 _ rfl) hgo
        have l3 := cell_turn HI.out.turn (HL.out 3 _ rfl) hgo
        by_cases hlt2 : j < x.mm
        · obtain ⟨ys, hy, _⟩ := HI.out.irow
          obtain ⟨gi, hai, _⟩ := row_at hy (by omega)
          rw [hai] at hy l4
          obtain ⟨u0, q0⟩ := hy.cellAt (j * 5) (by omega)
          obtain ⟨u1, q1⟩ := hy.cellAt (j * 5 + 1) (by omega)
          obtain ⟨u2, q2⟩ := hy.cellAt (j * 5 + 2) (by omega)
          obtain ⟨u3, q3⟩ := hy.cellAt (j * 5 + 3) (by omega)
          obtain ⟨u4, q4⟩ := hy.cellAt (j * 5 + 4) (by omega)
          have fr := World.ownsRow.frozenAt hy
          have HS := Lib.hid (HI.out.set hai hlt2)
          clear hy HI hai l3
          go_wp2
          refine ⟨⟨j + 1, by omega, by simp, HS⟩, ?_⟩
          simp only [intOf]; omega
        · obtain rfl : j = x.mm := by omega
          have HN := Lib.hid HI.out.names
          go_wp2
          clear HI l3 l4
          go_loopw [6] (fun k wq => ∃ j : Nat, j ≤ x.nn ∧ k = .int .i64 j ∧ Hid (ApN wA x i j wq)) (fun k _ => x.nn - (intOf k).toNat)
          case atStart => exact ⟨0, by omega, rfl, HN⟩
          case round =>
            clear HN
            obtain ⟨j, hj, rfl, HI⟩ := hrel
            have l3 := cell_turn HI.out.turn (HL.out 3 _ rfl) hgo
            by_cases hlt3 : j < x.nn
            · obtain ⟨ys, hy, _⟩ := HI.out.nrow
              obtain ⟨gi, hai, _⟩ := row_at hy (by omega)
              have HR := Lib.hid hy
              rw [hai] at l3
              have hcall := digits_c (i : Int) (by omega) wr.drew
              clear hy
              go_wp2_with fail
              go_region_law (go_simp; go_at_call 51; refine hcall.mono ?_; rintro e w2 ⟨rfl, hb2⟩; have hb3 : Below wr.heap.size wr w2 := Below.trans (Below.drew (Below.refl wr.heap.size wr)) hb2; have l3b := cell_below hb3 l3; have hyb := HR.out.below hb3; rw [hai] at hyb; obtain ⟨u0, q0⟩ := hyb.cellAt j (by omega); have fr := World.ownsRow.frozenAt hyb; have HS := Lib.hid (HI.out.set hai hlt3 hb3); clear hyb hb2 hb3)
              all_goals clear l3 l3b q0 fr u0
              all_goals go_wp2
              all_goals go_roundw
              all_goals first | exact ⟨j + 1, by omega, by go_num, HS⟩ | (simp [intOf]; omega)
            · obtain rfl : j = x.nn := by omega
              have HN := Lib.hid (H.out.next hx hnd ha HI.out.turn HI.out.full)
              clear HI H
              go_wp2
              exact ⟨⟨i + 1, by omega, by simp, HN⟩, by simp only [intOf]; omega⟩
    · obtain rfl : i = hs.length := by omega
      have HG := Lib.hid H.out.grow
      clear H
      go_wp2
      go_loopw [7, 8, 9, 10] (fun l i _ _ wq => ∃ j : Nat, j ≤ hs.length ∧ i = .int .i64 j ∧ ∃ ga gc gs, l = .slice ga j gc ∧ Hid (ApG w hs a c j ga gc gs wq)) (fun _ i _ _ _ => hs.length - (intOf i).toNat)
      case atStart => exact ⟨0, by omega, rfl, none, 0, [], rfl, HG⟩
      case round =>
        clear HG
        obtain ⟨i, hi, rfl, ga, gc, gs, rfl, H⟩ := hrel
        by_cases hlt : i < hs.length
        · obtain ⟨x, hx⟩ : ∃ x, hs[i]? = some x := ⟨_, List.getElem?_eq_getElem hlt⟩
          obtain ⟨wA, rfl⟩ : ∃ wA, wA = wr := ⟨wr, rfl⟩
          obtain ⟨g, hg, hlie⟩ := hd_lie H.out.row hx
          subst hg
          obtain ⟨hn1, hm1⟩ := hnb i x hx
          have l3 := hlie 3 _ rfl
          have l4 := hlie 4 _ rfl
          clear hlie
          go_wp2_with fail
          have hSS : ∀ W', Below wA.heap.size wA W' → (fun w' => w'.cell? ⟨g, i * 5 + 3, none⟩ = some (.slice x.an x.nn x.cn) ∧ w'.cell? ⟨g, i * 5 + 4, none⟩ = some (.slice x.ai x.mm x.ci)) W' := fun W' hW => ⟨cell_below hW l3, cell_below hW l4⟩
          have HSS := Lib.hid hSS
          clear hSS l3 l4
          go_region_held3 (fun w' => w'.cell? ⟨g, i * 5 + 3, none⟩ = some (.slice x.an x.nn x.cn) ∧ w'.cell? ⟨g, i * 5 + 4, none⟩ = some (.slice x.ai x.mm x.ci)) (exact HSS.out _ (by repeat (first | with_reducible exact Below.refl _ _ | with_reducible refine Below.drew ?_ | with_reducible refine Below.alloc ?_ (by simp) _))) (fail)
          have hbW : Below wA.heap.size wA (wA.alloc (.cells #[.int .i64 0, .int .i64 0, .string ⟨#[]⟩, .slice x.an x.nn x.cn, .slice x.ai x.mm x.ci] 28)).drew := Below.drew ((Below.refl _ _).alloc (Nat.le_refl _) _)
          have HG := Lib.hid (H.out.start hx hFl hbW (Nat.le_refl _) (heap_alloc_new wA (.cells #[.int .i64 0, .int .i64 0, .string ⟨#[]⟩, .slice x.an x.nn x.cn, .slice x.ai x.mm x.ci] 28)))
          clear hbW HSS
          generalize (wA.alloc (.cells #[.int .i64 0, .int .i64 0, .string ⟨#[]⟩, .slice x.an x.nn x.cn, .slice x.ai x.mm x.ci] 28)).drew = wB at *
          go_wp2
          go_loopw [10] (fun k wq => ∃ j : Nat, j ≤ 16 ∧ k = .int .i64 j ∧ ∃ gn gnc gi gic, Hid (GrAt wA x i wA.heap.size j j gn gnc gi gic wq)) (fun k _ => 16 - (intOf k).toNat)
          case atStart => exact ⟨0, by omega, rfl, _, _, _, _, HG⟩
          case round =>
            clear HG
            obtain ⟨j, hj, rfl, gn, gnc, gi, gic, HG⟩ := hrel
            have c3 := HG.out.c3
            have c4 := HG.out.c4
            by_cases hlt5 : j < 16
            · go_wp2_with (at_builtin; refine wpList_app2 valTy rfl _ _ rfl (.slice gi (x.mm + j) gic) (x.mm + j) (marks (i : Int) (x.mm + j)) rfl (HG.out.irow.below ((Below.refl _ _).alloc (Nat.le_refl _) _)) ⟨wr.heap.size, 0, none⟩ 1 1 [.int .i64 0, .int .i64 (i : Int), .string ⟨#[]⟩, .slice none 0 0, .slice none 0 0] rfl rfl (World.news_of_block (heap_alloc_new wr _)) (by simp [Value.oneCell']) (by unfold maxLen; omega) (by omega) ?_; intro iv' w1 hr1 hu1 hst1 ; obtain ⟨ga', gc', hv1, _⟩ := hr1.form ; subst hv1 ; obtain ⟨k4, g4, HG2⟩ := (HG.out.below ((Below.refl wr.heap.size wr).alloc (Nat.le_refl _) _)).iapp hu1 hr1 hst1 ; have HG3 := Lib.hid HG2 ; clear hu1 hr1 hst1 HG c3 c4 HG2)
              have c3 := HG3.out.c3
              have f3 := HG3.out.f3
              have hcall := digits_c (i : Int) (by omega) (w1.setCell ⟨wA.heap.size, 4, none⟩ (.slice ga' (x.mm + j + 1) gc')).drew
              generalize (w1.setCell ⟨wA.heap.size, 4, none⟩ (.slice ga' (x.mm + j + 1) gc')) = w2 at *
              clear k4 g4
              go_wp2_with fail
              go_region_law (first
                | (refine step_app2 strTy (by rfl) _ _ (by rfl) (.slice gn (x.nn + j) gnc) (x.nn + j) (List.replicate (x.nn + j) (dg i)) (by rfl) (HG4.out.nrow.below ((Below.refl w3.heap.size w3).alloc (Nat.le_refl _) _)) ⟨w3.heap.size, 0, none⟩ 1 1 [.string ⟨(Lib.itoa (i : Int)).toArray⟩] (by rfl) (by rfl) (World.news_of_block (heap_alloc_new w3 _)) (by simp [Value.oneCell']) (by unfold maxLen; omega) (by omega) ?_; intro nv' w4 hr4 hu4 hst4; obtain ⟨gb', gd', hv4, _⟩ := hr4.form; subst hv4; obtain ⟨k3, g3, HG5⟩ := (HG4.out.below ((Below.refl w3.heap.size w3).alloc (Nat.le_refl _) _)).napp hu4 hr4 hst4; have HG6 := Lib.hid HG5; clear hu4 hr4 hst4 HG5)
                | (go_simp; go_at_call 51; refine hcall.mono ?_; rintro e w3 ⟨rfl, hb3⟩; have HG4 := Lib.hid (HG3.out.below (Below.trans (Below.drew (Below.refl w2.heap.size w2)) hb3)); have c3b := HG4.out.c3; have c3c := cell_below ((Below.refl w3.heap.size w3).alloc (Nat.le_refl _) (.cells #[.string ⟨(Lib.itoa (i : Int)).toArray⟩] 9)) c3b; clear hb3))
              all_goals clear c3 c3b c3c f3 k3 g3
              all_goals go_wp2
              all_goals go_roundw
              all_goals first | exact ⟨j + 1, by omega, by go_num, _, _, _, _, HG6⟩ | (simp [intOf]; omega)
            · obtain rfl : j = 16 := by omega
              have HGW := Lib.hid (H.out.growTurn hx hFl HG.out.turn)
              obtain ⟨⟨z0, z1, z2, z3, z4⟩, zz⟩ := And.intro (And.intro HG.out.c0 (And.intro HG.out.c1 (And.intro HG.out.c2 (And.intro c3 c4)))) True.intro
              go_wp2_with (at_builtin; refine wpList_app valTy rfl _ _ rfl (.slice ga i gc) i (gs.flatMap Hd.cells) rfl ((HGW.out).below ((Below.refl _ _).alloc (Nat.le_refl _) _)) ⟨wr.heap.size, 0, none⟩ 1 1 [.int .i64 0, .int .i64 0, .string ⟨#[]⟩, .slice gn (x.nn + 16) gnc, .slice gi (x.mm + 16) gic] rfl rfl (World.news_of_block (heap_alloc_new wr _)) (by simp [Value.oneCell']) (by unfold maxLen; omega) (by omega) ?_; intro v' w2 hr2 hu2; obtain ⟨ga', gc', hv2, _⟩ := hr2.form; subst hv2; have HN := Lib.hid (H.out.next hx hnd hFl ha HG.out ((Below.refl wr.heap.size wr).alloc (Nat.le_refl _) _) hu2 hr2); clear hu2 hr2)
              exact ⟨⟨i + 1, by omega, by simp, _, _, _, rfl, HN⟩, by simp only [intOf]; omega⟩
        · obtain rfl : i = hs.length := by omega
          have HG := H
          clear H
          go_wp2
          go_loopw [11, 12, 13] (fun i _ _ wq => ∃ j : Nat, j ≤ hs.length ∧ i = .int .i64 j ∧ Hid (ApG w hs a c hs.length ga gc gs wq)) (fun i _ _ _ => hs.length - (intOf i).toNat)
          case atStart => exact ⟨0, by omega, rfl, HG⟩
          case round =>
            clear HG
            obtain ⟨i, hi, rfl, H⟩ := hrel
            by_cases hlt : i < hs.length
            · obtain ⟨x, hx⟩ : ∃ x, hs[i]? = some x := ⟨_, List.getElem?_eq_getElem hlt⟩
              obtain ⟨y, hy⟩ : ∃ y, gs[i]? = some y := ⟨_, List.getElem?_eq_getElem (by rw [H.out.gl]; exact hlt)⟩
              obtain ⟨wA, rfl⟩ : ∃ wA, wA = wr := ⟨wr, rfl⟩
              obtain ⟨g, hg, hlie⟩ := hd_lie H.out.row hx
              obtain ⟨g2, hg2, hlie2⟩ := hd_lie H.out.grow hy
              subst hg
              subst hg2
              obtain ⟨hn1, hm1⟩ := hnb i x hx
              obtain ⟨kx, ky, e1, e2, _⟩ := H.out.done i x y hx hy
              have HL := Lib.hid (And.intro hlie hlie2)
              have HK := Lib.hid (And.intro kx ky)
              have HW := Lib.hid (Below.refl wA.heap.size wA)
              have hyn : y.nn ≤ 1099511627792 := by omega
              have hym : y.mm ≤ 1099511627792 := by omega
              clear hlie hlie2 kx ky e1 e2
              go_wp2_with fail
              go_loopw [12] (fun k wq => ∃ j : Nat, j ≤ y.mm ∧ k = .int .i64 j ∧ Hid (Below wA.heap.size wA wq)) (fun k _ => y.mm - (intOf k).toNat)
              case atStart => exact ⟨0, by omega, rfl, HW⟩
              case round =>
                clear HW
                obtain ⟨j, hj, rfl, HW⟩ := hrel
                have l4 := cell_below HW.out (HL.out.1 4 _ rfl)
                have m4 := cell_below HW.out (HL.out.2 4 _ rfl)
                by_cases hlt2 : j < y.mm
                · obtain ⟨gy, ey, cy⟩ := HK.out.2.i j hlt2
                  have cy := cell_below HW.out cy
                  rw [ey] at m4
                  by_cases hlt3 : j < x.mm
                  · obtain ⟨gx, ex, cx⟩ := HK.out.1.i j hlt3
                    have cx := cell_below HW.out cx
                    rw [ex] at l4
                    go_wp2
                    exact ⟨⟨j + 1, by omega, by simp, HW⟩, by simp only [intOf]; omega⟩
                  · go_wp2
                    exact ⟨⟨j + 1, by omega, by simp, HW⟩, by simp only [intOf]; omega⟩
                · obtain rfl : j = y.mm := by omega
                  go_wp2
                  clear l4 m4
                  have HW0 := HW
                  clear HW
                  go_loopw [13] (fun k wq => ∃ j : Nat, j ≤ y.nn ∧ k = .int .i64 j ∧ Hid (Below wA.heap.size wA wq)) (fun k _ => y.nn - (intOf k).toNat)
                  case atStart => exact ⟨0, by omega, rfl, HW0⟩
                  case round =>
                    clear HW0
                    obtain ⟨j, hj, rfl, HW⟩ := hrel
                    have l3 := cell_below HW.out (HL.out.1 3 _ rfl)
                    have m3 := cell_below HW.out (HL.out.2 3 _ rfl)
                    by_cases hlt2 : j < y.nn
                    · obtain ⟨gy, ey, cy⟩ := HK.out.2.n j hlt2
                      have cy := cell_below HW.out cy
                      unfold dg at cy
                      rw [ey] at m3
                      have hdr := Lib.hid (Below.drew (Below.refl wr.heap.size wr))
                      have hcall := fun (W : World) => digits_c (i : Int) (by omega) W
                      by_cases hlt3 : j < x.nn
                      · obtain ⟨gx, ex, cx⟩ := HK.out.1.n j hlt3
                        have cx := cell_below HW.out cx
                        unfold dg at cx
                        rw [ex] at l3
                        have P1 := cell_regrown (w := wr) l3
                        have P2 := cell_regrown (w := wr) m3
                        have P3 := cell_regrown (w := wr) cx
                        have P4 := cell_regrown (w := wr) cy
                        have k := fun (d : Nat) (os : Array Obj) => regB (digits_c (i : Int) (by omega) (Sort.grow (redrawn wr d) os))
                        go_wp2_with fail
                        clear l3 m3 cx cy hcall hdr
                        refine wp_region_quiet_below (by kernel_rfl) (by kernel_rfl) ?_
                        repeat (go_big_quiet_step ((go_at_call 51; with_reducible exact k _ _)))
                        refine wpQuiet_nil ?_
                        intro _ hw'
                        obtain ⟨⟨dq, osq⟩, hw''⟩ := hw'
                        subst hw''
                        have HW2 := Lib.hid (HW.out.trans ((below_regrown wr dq osq).mono HW.out.size))
                        clear HW k
                        go_wp2
                        exact ⟨⟨j + 1, by omega, by simp, HW2⟩, by simp only [intOf]; omega⟩
                      · have hd : decide ((j : Int) < (x.nn : Int)) = false := by rw [decide_eq_false_iff_not]; omega
                        have P1 := cell_regrown (w := wr) l3
                        have P2 := cell_regrown (w := wr) m3
                        have P4 := cell_regrown (w := wr) cy
                        have k := fun (d : Nat) (os : Array Obj) => regB (digits_c (i : Int) (by omega) (Sort.grow (redrawn wr d) os))
                        go_wp2_with fail
                        clear l3 m3 cy hcall hdr
                        refine wp_region_quiet_below (by kernel_rfl) (by kernel_rfl) ?_
                        repeat (go_big_quiet_step ((go_at_call 51; with_reducible exact k _ _)))
                        refine wpQuiet_nil ?_
                        intro _ hw'
                        obtain ⟨⟨dq, osq⟩, hw''⟩ := hw'
                        subst hw''
                        have HW2 := Lib.hid (HW.out.trans ((below_regrown wr dq osq).mono HW.out.size))
                        clear HW k
                        go_wp2
                        exact ⟨⟨j + 1, by omega, by simp, HW2⟩, by simp only [intOf]; omega⟩
                    · obtain rfl : j = y.nn := by omega
                      have HN := Lib.hid (H.out.below HW.out)
                      clear H
                      go_wp2
                      exact ⟨⟨i + 1, by omega, by simp, HN⟩, by simp only [intOf]; omega⟩
            · obtain rfl : i = hs.length := by omega
              have HT := Lib.hid H.out.turn
              clear H
              go_wp2
              go_ret
              exact ⟨rfl, HT.out⟩
end Go.Proofs.YtbkbokfegjodnaaDoor
