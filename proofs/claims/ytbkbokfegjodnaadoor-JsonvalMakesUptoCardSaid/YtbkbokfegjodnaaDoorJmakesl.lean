/- The walk of the law JsonvalMakes. Conditions: what lies in the package-level variables; what the values hold is at most 2 to the 40. -/
import Derived.Test.YtbkbokfegjodnaaDoorMakeskit
namespace Go.Proofs.YtbkbokfegjodnaaDoor
open Go.RowKit
set_option maxRecDepth 20000 in
set_option maxHeartbeats 16000000 in
theorem jsonvalMakes_c (ns : List ByteArray) (is : List JV) (an : Option Addr) (cn : Nat) (ai : Option Addr) (ci : Nat) (n : Int) (s : ByteArray) (w : World) (ok : Nat → Prop)
    (hr : Rep w ok (.mk 0 0 ⟨#[]⟩ ns is) [.int .i64 0, .int .i64 0, .string ⟨#[]⟩, .slice an ns.length cn, .slice ai is.length ci]) (hbt : (JV.mk 0 0 ⟨#[]⟩ ns is).bulk ≤ 1099511627776)
    (hn : -9223372036854775808 ≤ n ∧ n ≤ 9223372036854775807) (hs : s.size ≤ maxLen) (hT : JTabs w) :
    Calls Tryd.prog 10 #[.slice an ns.length cn, .slice ai is.length ci, .int .i64 n, .string s] w fun r w' => r = .returned (.bool true) ∧ Below w.heap.size w w' := by
  have hr6 : Rep w ok (.mk 6 0 ⟨#[]⟩ ns is) [.int .i64 6, .int .i64 0, .string ⟨#[]⟩, .slice an ns.length cn, .slice ai is.length ci] := by
    rw [rep_mk] at hr ⊢
    obtain ⟨h1, h2, h3, an', cn', ai', ci', e, rest⟩ := hr
    injection e with _ e
    injection e with _ e
    injection e with _ e
    injection e with e1 e
    injection e with e2 _
    injection e1 with e3 _ e4
    injection e2 with e5 _ e6
    subst e3; subst e4; subst e5; subst e6
    exact ⟨by decide, h2, h3, an, cn, ai, ci, rfl, rest⟩
  have hr5 : Rep w ok (.mk 5 0 ⟨#[]⟩ [] is) [.int .i64 5, .int .i64 0, .string ⟨#[]⟩, .slice none 0 0, .slice ai is.length ci] := by
    rw [rep_mk] at hr ⊢
    obtain ⟨h1, h2, h3, an', cn', ai', ci', e, hcn, hci, hst, hit⟩ := hr
    injection e with _ e
    injection e with _ e
    injection e with _ e
    injection e with _ e
    injection e with e2 _
    injection e2 with e5 _ e6
    subst e5; subst e6
    exact ⟨by decide, h2, h3, none, 0, ai, ci, rfl, ⟨Nat.zero_le _, Nat.zero_le _⟩, hci, .inl rfl, hit⟩
  have hbk := hbt
  rw [JV.bulk] at hbk
  have hisl := JV.len_bulks is
  have hnsl := strs_len ns
  have hil : is.length ≤ 1099511627776 := by omega
  have hnl : ns.length ≤ 1099511627776 := by omega
  have hb5 : (JV.mk 5 0 ⟨#[]⟩ [] is).bulk ≤ 1099511627776 := by rw [JV.bulk]; have h0 : strsBulk [] = 0 := rfl; have h1 : (⟨#[]⟩ : ByteArray).size = 0 := rfl; omega
  have hb6 : (JV.mk 6 0 ⟨#[]⟩ ns is).bulk ≤ 1099511627776 := by rw [JV.bulk]; exact hbk
  clear hbk hisl hnsl
  have hl := large_t (.mk 0 0 ⟨#[]⟩ ns is) an ai cn ci w ok hr hbt
  have HR := Lib.hid (And.intro hr (And.intro hr6 hr5))
  have HT := Lib.hid hT
  clear hr hr6 hr5 hT
  go_enter Tryd.func10, Tryd.ntmps10
  go_wp2_with fail
  refine hl.mono ?_; rintro e w1 ⟨rfl, hb1⟩
  have HB1 := Lib.hid hb1
  clear hb1 hl
  cases hlt : largeB (.mk 0 0 ⟨#[]⟩ ns is) with
  | true =>
    clear hlt
    go_wp2
    go_ret
    exact ⟨rfl, HB1.out⟩
  | false =>
    clear hlt
    go_wp2_with fail
    refine (of_c n w1).mono ?_; rintro e w2 ⟨rfl, hb⟩
    have HB2 := Lib.hid (HB1.out.trans (hb.mono HB1.out.size))
    clear hb HB1
    go_wp2_with fail
    refine (leaf_eq w2 3 n ⟨#[]⟩ (by decide) hn (by decide)).mono ?_; rintro e w3 ⟨rfl, hb⟩
    have HB3 := Lib.hid (HB2.out.trans (hb.mono HB2.out.size))
    clear hb HB2
    go_wp2_with fail
    refine (rdWord_c s w3).mono ?_; rintro e w4 ⟨rfl, hb⟩
    have HB4 := Lib.hid (HB3.out.trans (hb.mono HB3.out.size))
    clear hb HB3
    go_wp2_with fail
    refine (leaf_eq w4 4 0 s (by decide) (by decide) hs).mono ?_; rintro e w5 ⟨rfl, hb⟩
    have HB5 := Lib.hid (HB4.out.trans (hb.mono HB4.out.size))
    clear hb HB4
    go_wp2_with fail
    refine (flagT_c w5).mono ?_; rintro e w6 ⟨rfl, hb⟩
    have HB6 := Lib.hid (HB5.out.trans (hb.mono HB5.out.size))
    clear hb HB5
    go_wp2_with fail
    refine (leaf_eq w6 2 0 ⟨#[]⟩ (by decide) (by decide) (by decide)).mono ?_; rintro e w7 ⟨rfl, hb⟩
    have HB7 := Lib.hid (HB6.out.trans (hb.mono HB6.out.size))
    clear hb HB6
    go_wp2_with fail
    refine (flagF_c w7).mono ?_; rintro e w8 ⟨rfl, hb⟩
    have HB8 := Lib.hid (HB7.out.trans (hb.mono HB7.out.size))
    clear hb HB7
    go_wp2_with fail
    refine (leaf_eq w8 1 0 ⟨#[]⟩ (by decide) (by decide) (by decide)).mono ?_; rintro e w9 ⟨rfl, hb⟩
    have HB9 := Lib.hid (HB8.out.trans (hb.mono HB8.out.size))
    clear hb HB8
    go_wp2_with fail
    refine (fcopy_m 0 0 ⟨#[]⟩ ns is an ai cn ci w9 ok (HR.out.1.below HB9.out) hbt).mono ?_; rintro e wa ⟨gn, gc, gi, gd, xs, Fs, rfl, hg, hgd, hba⟩
    have hx1 := (Below.refl wa.heap.size wa).alloc (Nat.le_refl _) (.cells #[.int .i64 0, .int .i64 0, .string ⟨#[]⟩, .slice gn ns.length gc, .slice gi is.length gd] 28)
    have xg := heap_alloc_new wa (.cells #[.int .i64 0, .int .i64 0, .string ⟨#[]⟩, .slice gn ns.length gc, .slice gi is.length gd] 28)
    have hg' := (⟨hg.1.below hx1, hg.2.1.below hx1, hg.2.2.1.below hx1, hg.2.2.2.below hx1⟩ : _ ∧ _ ∧ _ ∧ _)
    have hlt : ∀ b ∈ ownA gn ++ (ownA gi ++ Fs), b < wa.heap.size := RepF.lt _ _ _ hg.1
    have hnm := named_c _ _ gn ns gc (row_strs hg'.2.1).1 (row_strs hg'.2.1).2 (by omega) gi is.length gd xs hg'.2.2.1 hg'.2.2.2.one hil
    have HB10 := Lib.hid (HB9.out.trans (Below.trans (hba.mono HB9.out.size) (hx1.mono (Nat.le_trans HB9.out.size hba.size))))
    have G0 := Lib.hid hg'.1
    have GI0 := Lib.hid hg'.2.2.1
    have GS0 := Lib.hid hg'.2.2.2
    have XG0 := Lib.hid xg
    have hwa := Nat.le_trans HB9.out.size hba.size
    have HGD := Lib.hid (And.intro hgd.1 (And.intro hwa (fun b hm => And.intro (Nat.le_trans HB9.out.size (hgd.2 b hm)) (hlt b hm))))
    clear hwa
    clear hg hg' hgd hba hx1 xg hlt HB9
    go_wp2_with fail
    refine hnm.mono ?_; rintro e wb ⟨on, oc, oi, od, rfl, ho1, ho2, ho3, ho4, ho5, hbb⟩
    simp only [World.size_alloc] at ho3 ho4
    have hsb := hbb.size
    simp only [World.size_alloc] at hsb
    have hob : ∀ b ∈ ownA on ++ ownA oi, wa.heap.size < b ∧ b < wb.heap.size := fun b hm => by rcases List.mem_append.1 hm with hm | hm; exact ⟨ho3 b hm, ho1.own_lt b hm⟩; exact ⟨ho4 b hm, ho2.own_lt b hm⟩
    have hof := repF_of (k := 6) (n := 0) (s := ⟨#[]⟩) (by decide) (by decide) (by decide) ho1 ho2 (GS0.out.below hbb)
    have hx := (Below.refl wb.heap.size wb).alloc (Nat.le_refl _) (.cells #[.int .i64 6, .int .i64 0, .string ⟨#[]⟩, .slice on ns.length oc, .slice oi is.length od] 28)
    have hbl := below_trans hbb hx
    have G1 := Lib.hid (G0.out.below hbl)
    have GI1 := Lib.hid (GI0.out.below hbl)
    have GS1 := Lib.hid (GS0.out.below hbl)
    have XG1 := Lib.hid (block_below hbl XG0.out)
    have HB11 := Lib.hid (HB10.out.trans (hbl.mono HB10.out.size))
    have O1 := Lib.hid (hof.below hx)
    have XO1 := Lib.hid (heap_alloc_new wb (.cells #[.int .i64 6, .int .i64 0, .string ⟨#[]⟩, .slice on ns.length oc, .slice oi is.length od] 28))
    clear HB10 G0 GI0 GS0 XG0
    have HOD := Lib.hid (And.intro hsb hob)
    clear hsb hob hof ho1 ho2 ho3 ho4 ho5 hbb hx hbl hnm
    have hls := listed_c _ gi is.length gd xs GI1.out GS1.out.one hil
    obtain ⟨⟨z0, z1, z2, z3, z4⟩, _⟩ := cellsOf5 XG1.out
    go_wp2_with fail
    clear z0 z1 z2 z3 z4
    refine hls.mono ?_; rintro e wc ⟨li, ld, rfl, ho1, ho3, hbb⟩
    simp only [World.size_alloc] at ho3
    have hsb := hbb.size
    simp only [World.size_alloc] at hsb
    have hob : ∀ b ∈ ownA li, wb.heap.size < b ∧ b < wc.heap.size := fun b hm => ⟨ho3 b hm, ho1.own_lt b hm⟩
    have hof := repF_of (k := 5) (n := 0) (s := ⟨#[]⟩) (ns := []) (an := none) (cn := 0) (by decide) (by decide) (by decide) (row_nil _ _ _) ho1 (GS1.out.below hbb)
    have hx := (Below.refl wc.heap.size wc).alloc (Nat.le_refl _) (.cells #[.int .i64 5, .int .i64 0, .string ⟨#[]⟩, .slice none 0 0, .slice li is.length ld] 28)
    have hbl := below_trans hbb hx
    have G2 := Lib.hid (G1.out.below hbl)
    have GI2 := Lib.hid (GI1.out.below hbl)
    have GS2 := Lib.hid (GS1.out.below hbl)
    have XG2 := Lib.hid (block_below hbl XG1.out)
    have O2 := Lib.hid (O1.out.below hbl)
    have XO2 := Lib.hid (block_below hbl XO1.out)
    have HB12 := Lib.hid (HB11.out.trans (hbl.mono HB11.out.size))
    have L2 := Lib.hid (hof.below hx)
    have XL2 := Lib.hid (heap_alloc_new wc (.cells #[.int .i64 5, .int .i64 0, .string ⟨#[]⟩, .slice none 0 0, .slice li is.length ld] 28))
    clear HB11 G1 GI1 GS1 XG1 O1 XO1
    have HLD := Lib.hid (And.intro hsb hob)
    clear hsb hob hof ho1 ho3 hbb hx hbl hls
    have hls := fcopy_m 6 0 ⟨#[]⟩ ns is an ai cn ci _ ok (HR.out.2.1.below HB12.out) hb6
    go_wp2_with fail
    refine hls.mono ?_; rintro e wd ⟨pn, pc, pi, pd, xs6, F6, rfl, ho1, ho3, hbb⟩
    have ho4 := ho3.2
    simp only [World.size_alloc] at ho4
    have hsb := hbb.size
    simp only [World.size_alloc] at hsb
    have hob : ∀ b ∈ ownA pn ++ (ownA pi ++ F6), wc.heap.size < b ∧ b < wd.heap.size := fun b hm => ⟨ho4 b hm, RepF.lt _ _ _ ho1.1 b hm⟩
    have hx := (Below.refl wd.heap.size wd).alloc (Nat.le_refl _) (.cells #[.int .i64 6, .int .i64 0, .string ⟨#[]⟩, .slice pn ns.length pc, .slice pi is.length pd] 28)
    have hbl := below_trans hbb hx
    have G3 := Lib.hid (G2.out.below hbl)
    have GI3 := Lib.hid (GI2.out.below hbl)
    have GS3 := Lib.hid (GS2.out.below hbl)
    have XG3 := Lib.hid (block_below hbl XG2.out)
    have O3 := Lib.hid (O2.out.below hbl)
    have XO3 := Lib.hid (block_below hbl XO2.out)
    have L3 := Lib.hid (L2.out.below hbl)
    have XL3 := Lib.hid (block_below hbl XL2.out)
    have HB13 := Lib.hid (HB12.out.trans (hbl.mono HB12.out.size))
    have P3 := Lib.hid (ho1.1.below hx)
    have XP3 := Lib.hid (heap_alloc_new wd (.cells #[.int .i64 6, .int .i64 0, .string ⟨#[]⟩, .slice pn ns.length pc, .slice pi is.length pd] 28))
    clear HB12 G2 GI2 GS2 XG2 O2 XO2 L2 XL2
    have HPD := Lib.hid (And.intro hsb hob)
    clear hsb hob ho1 ho3 ho4 hbb hx hbl hls
    have hls := fcopy_m 5 0 ⟨#[]⟩ [] is none ai 0 ci _ ok (HR.out.2.2.below HB13.out) hb5
    go_wp2_with fail
    refine hls.mono ?_; rintro e we ⟨qn, qc, qi, qd, xs5, F5, rfl, ho1, ho3, hbb⟩
    have ho4 := ho3.2
    simp only [World.size_alloc] at ho4
    have hsb := hbb.size
    simp only [World.size_alloc] at hsb
    have hob : ∀ b ∈ ownA qn ++ (ownA qi ++ F5), wd.heap.size < b ∧ b < we.heap.size := fun b hm => ⟨ho4 b hm, RepF.lt _ _ _ ho1.1 b hm⟩
    have hx := (Below.refl we.heap.size we).alloc (Nat.le_refl _) (.cells #[.int .i64 5, .int .i64 0, .string ⟨#[]⟩, .slice qn 0 qc, .slice qi is.length qd] 28)
    have hbl := below_trans hbb hx
    have G4 := Lib.hid (G3.out.below hbl)
    have GI4 := Lib.hid (GI3.out.below hbl)
    have GS4 := Lib.hid (GS3.out.below hbl)
    have XG4 := Lib.hid (block_below hbl XG3.out)
    have O4 := Lib.hid (O3.out.below hbl)
    have XO4 := Lib.hid (block_below hbl XO3.out)
    have L4 := Lib.hid (L3.out.below hbl)
    have XL4 := Lib.hid (block_below hbl XL3.out)
    have P4 := Lib.hid (P3.out.below hbl)
    have XP4 := Lib.hid (block_below hbl XP3.out)
    have HB14 := Lib.hid (HB13.out.trans (hbl.mono HB13.out.size))
    have Q4 := Lib.hid (ho1.1.below hx)
    have XQ4 := Lib.hid (heap_alloc_new we (.cells #[.int .i64 5, .int .i64 0, .string ⟨#[]⟩, .slice qn 0 qc, .slice qi is.length qd] 28))
    clear HB13 G3 GI3 GS3 XG3 O3 XO3 L3 XL3 P3 XP3
    have HQD := Lib.hid (And.intro hsb hob)
    clear hsb hob ho1 ho3 ho4 hbb hx hbl hls
    have hsz : (we.alloc (.cells #[.int .i64 5, .int .i64 0, .string ⟨#[]⟩, .slice qn 0 qc, .slice qi is.length qd] 28)).heap.size = we.heap.size + 1 := by simp
    go_wp2_with fail
    generalize (we.alloc (.cells #[.int .i64 5, .int .i64 0, .string ⟨#[]⟩, .slice qn 0 qc, .slice qi is.length qd] 28)) = wf at *
    obtain ⟨⟨gc0, gc1, gc2, gc3, gc4⟩, _⟩ := cellsOf5 XG4.out
    obtain ⟨⟨oc0, oc1, oc2, oc3, oc4⟩, _⟩ := cellsOf5 XO4.out
    obtain ⟨⟨lc0, lc1, lc2, lc3, lc4⟩, _⟩ := cellsOf5 XL4.out
    obtain ⟨⟨pc0, pc1, pc2, pc3, pc4⟩, _⟩ := cellsOf5 XP4.out
    obtain ⟨⟨qc0, qc1, qc2, qc3, qc4⟩, _⟩ := cellsOf5 XQ4.out
    have hSS : ∀ W', Below wf.heap.size wf W' → (fun w' => w'.cell? ⟨wa.heap.size, 0, none⟩ = some (.int .i64 0) ∧ w'.cell? ⟨wa.heap.size, 1, none⟩ = some (.int .i64 0) ∧ w'.cell? ⟨wa.heap.size, 2, none⟩ = some (.string ⟨#[]⟩) ∧ w'.cell? ⟨wa.heap.size, 3, none⟩ = some (.slice gn ns.length gc) ∧ w'.cell? ⟨wa.heap.size, 4, none⟩ = some (.slice gi is.length gd) ∧ w'.cell? ⟨wb.heap.size, 0, none⟩ = some (.int .i64 6) ∧ w'.cell? ⟨wb.heap.size, 1, none⟩ = some (.int .i64 0) ∧ w'.cell? ⟨wb.heap.size, 2, none⟩ = some (.string ⟨#[]⟩) ∧ w'.cell? ⟨wb.heap.size, 3, none⟩ = some (.slice on ns.length oc) ∧ w'.cell? ⟨wb.heap.size, 4, none⟩ = some (.slice oi is.length od) ∧ w'.cell? ⟨wc.heap.size, 0, none⟩ = some (.int .i64 5) ∧ w'.cell? ⟨wc.heap.size, 1, none⟩ = some (.int .i64 0) ∧ w'.cell? ⟨wc.heap.size, 2, none⟩ = some (.string ⟨#[]⟩) ∧ w'.cell? ⟨wc.heap.size, 3, none⟩ = some (.slice none 0 0) ∧ w'.cell? ⟨wc.heap.size, 4, none⟩ = some (.slice li is.length ld) ∧ w'.cell? ⟨wd.heap.size, 0, none⟩ = some (.int .i64 6) ∧ w'.cell? ⟨wd.heap.size, 1, none⟩ = some (.int .i64 0) ∧ w'.cell? ⟨wd.heap.size, 2, none⟩ = some (.string ⟨#[]⟩) ∧ w'.cell? ⟨wd.heap.size, 3, none⟩ = some (.slice pn ns.length pc) ∧ w'.cell? ⟨wd.heap.size, 4, none⟩ = some (.slice pi is.length pd) ∧ w'.cell? ⟨we.heap.size, 0, none⟩ = some (.int .i64 5) ∧ w'.cell? ⟨we.heap.size, 1, none⟩ = some (.int .i64 0) ∧ w'.cell? ⟨we.heap.size, 2, none⟩ = some (.string ⟨#[]⟩) ∧ w'.cell? ⟨we.heap.size, 3, none⟩ = some (.slice qn 0 qc) ∧ w'.cell? ⟨we.heap.size, 4, none⟩ = some (.slice qi is.length qd)) W' := fun W' hW => ⟨cell_below hW gc0, cell_below hW gc1, cell_below hW gc2, cell_below hW gc3, cell_below hW gc4, cell_below hW oc0, cell_below hW oc1, cell_below hW oc2, cell_below hW oc3, cell_below hW oc4, cell_below hW lc0, cell_below hW lc1, cell_below hW lc2, cell_below hW lc3, cell_below hW lc4, cell_below hW pc0, cell_below hW pc1, cell_below hW pc2, cell_below hW pc3, cell_below hW pc4, cell_below hW qc0, cell_below hW qc1, cell_below hW qc2, cell_below hW qc3, cell_below hW qc4⟩
    have HSS := Lib.hid hSS
    clear hSS gc0 gc1 gc2 gc3 gc4 oc0 oc1 oc2 oc3 oc4 lc0 lc1 lc2 lc3 lc4 pc0 pc1 pc2 pc3 pc4 qc0 qc1 qc2 qc3 qc4
    have E1 := fun (W : World) (hW : Below wf.heap.size wf W) => self_eq (O4.out.below hW) (P4.out.below hW)
    have E2 := fun (W : World) (hW : Below wf.heap.size wf W) => self_eq (L4.out.below hW) (Q4.out.below hW)
    have E3 := fun (W : World) (hW : Below wf.heap.size wf W) => fcopy_m 0 0 ⟨#[]⟩ ns is an ai cn ci W ok ((HR.out.1.below HB14.out).below hW) hbt
    have hdr := Lib.hid (Below.drew (Below.refl wf.heap.size wf))
    go_region_held3 (fun w' => w'.cell? ⟨wa.heap.size, 0, none⟩ = some (.int .i64 0) ∧ w'.cell? ⟨wa.heap.size, 1, none⟩ = some (.int .i64 0) ∧ w'.cell? ⟨wa.heap.size, 2, none⟩ = some (.string ⟨#[]⟩) ∧ w'.cell? ⟨wa.heap.size, 3, none⟩ = some (.slice gn ns.length gc) ∧ w'.cell? ⟨wa.heap.size, 4, none⟩ = some (.slice gi is.length gd) ∧ w'.cell? ⟨wb.heap.size, 0, none⟩ = some (.int .i64 6) ∧ w'.cell? ⟨wb.heap.size, 1, none⟩ = some (.int .i64 0) ∧ w'.cell? ⟨wb.heap.size, 2, none⟩ = some (.string ⟨#[]⟩) ∧ w'.cell? ⟨wb.heap.size, 3, none⟩ = some (.slice on ns.length oc) ∧ w'.cell? ⟨wb.heap.size, 4, none⟩ = some (.slice oi is.length od) ∧ w'.cell? ⟨wc.heap.size, 0, none⟩ = some (.int .i64 5) ∧ w'.cell? ⟨wc.heap.size, 1, none⟩ = some (.int .i64 0) ∧ w'.cell? ⟨wc.heap.size, 2, none⟩ = some (.string ⟨#[]⟩) ∧ w'.cell? ⟨wc.heap.size, 3, none⟩ = some (.slice none 0 0) ∧ w'.cell? ⟨wc.heap.size, 4, none⟩ = some (.slice li is.length ld) ∧ w'.cell? ⟨wd.heap.size, 0, none⟩ = some (.int .i64 6) ∧ w'.cell? ⟨wd.heap.size, 1, none⟩ = some (.int .i64 0) ∧ w'.cell? ⟨wd.heap.size, 2, none⟩ = some (.string ⟨#[]⟩) ∧ w'.cell? ⟨wd.heap.size, 3, none⟩ = some (.slice pn ns.length pc) ∧ w'.cell? ⟨wd.heap.size, 4, none⟩ = some (.slice pi is.length pd) ∧ w'.cell? ⟨we.heap.size, 0, none⟩ = some (.int .i64 5) ∧ w'.cell? ⟨we.heap.size, 1, none⟩ = some (.int .i64 0) ∧ w'.cell? ⟨we.heap.size, 2, none⟩ = some (.string ⟨#[]⟩) ∧ w'.cell? ⟨we.heap.size, 3, none⟩ = some (.slice qn 0 qc) ∧ w'.cell? ⟨we.heap.size, 4, none⟩ = some (.slice qi is.length qd)) (exact HSS.out _ (by first | with_reducible exact hdr.out | with_reducible exact hB1 | with_reducible exact hB2 | with_reducible exact hB3 | with_reducible exact hB4)) (first
      | (rw [if_pos (by rfl)]; go_simp; go_at_call 18; refine (self_eq (G4.out.below hB3) hx3).mono ?_; rintro e x4 ⟨rfl, hb4x⟩; have hB4 := hB3.trans (hb4x.mono hB3.size); dsimp only)
      | (rw [if_pos (by rfl)]; go_simp; go_at_call 21; refine (E3 x2 hB2).mono ?_; rintro e x3 ⟨yan, ycn, yai, yci, yxs, yfs, rfl, hx3', _, hb3x⟩; have hx3 := hx3'.1; have hB3 := hB2.trans (hb3x.mono hB2.size); dsimp only)
      | (rw [if_pos (by rfl)]; go_simp; go_at_call 18; refine (E2 x1 hB1).mono ?_; rintro e x2 ⟨rfl, hb2x⟩; have hB2 := hB1.trans (hb2x.mono hB1.size); dsimp only)
      | (go_at_call 18; refine (E1 wf.drew hdr.out).mono ?_; rintro e x1 ⟨rfl, hb1x⟩; have hB1 := Below.trans hdr.out hb1x; dsimp only))
    clear hb1x hb2x hb3x hx3 hx3' E1 E2 E3 hdr HSS hB1 hB2 hB3
    have G5 := Lib.hid (G4.out.below hB4)
    have XG5 := Lib.hid (block_below hB4 XG4.out)
    have O5 := Lib.hid (O4.out.below hB4)
    have XO5 := Lib.hid (block_below hB4 XO4.out)
    have L5 := Lib.hid (L4.out.below hB4)
    have XL5 := Lib.hid (block_below hB4 XL4.out)
    have P5 := Lib.hid (P4.out.below hB4)
    have XP5 := Lib.hid (block_below hB4 XP4.out)
    have Q5 := Lib.hid (Q4.out.below hB4)
    have XQ5 := Lib.hid (block_below hB4 XQ4.out)
    have HB15 := Lib.hid (HB14.out.trans (hB4.mono HB14.out.size))
    clear HB14 G4 XG4 O4 XO4 L4 XL4 P4 XP4 Q4 XQ4
    clear hB4 hb4x
    obtain ⟨xs5, Fs5, hr1, hr2, _⟩ := RepF.parts G5.out
    have hsh := shallow_c x4 0 0 ⟨#[]⟩ gn ns.length gc gi is.length gd _ _ hr1 hr2 hnl hil
    clear hr1 hr2
    obtain ⟨⟨z0, z1, z2, z3, z4⟩, _⟩ := cellsOf5 XG5.out
    go_wp2_with fail
    clear z0 z1 z2 z3 z4
    refine hsh.mono ?_; rintro e y1 ⟨rfl, ht⟩
    clear hsh
    obtain ⟨hnd, hwa, hgb⟩ := HGD.out
    obtain ⟨hab, hob⟩ := HOD.out
    obtain ⟨hbc, hlb⟩ := HLD.out
    obtain ⟨hcd, hpb⟩ := HPD.out
    obtain ⟨hde, hqb⟩ := HQD.out
    have hS1 : ∀ b, (b ∈ ownA gn ∨ b ∈ ownA gi) → w.heap.size ≤ b ∧ b < wa.heap.size := fun b hm => hgb b (by rcases hm with hm | hm <;> simp [hm])
    have hS1n : ∀ b, wa.heap.size ≤ b → ¬ (b ∈ ownA gn ∨ b ∈ ownA gi) := fun b hb hm => by have := hS1 b hm; omega
    have hFs : ∀ b ∈ Fs, ¬ (b ∈ ownA gn ∨ b ∈ ownA gi) := fun b hm hg => by
      rw [List.nodup_append] at hnd
      obtain ⟨_, h2, h3⟩ := hnd
      rw [List.nodup_append] at h2
      rcases hg with hg | hg
      · exact h3 b hg b (by simp [hm]) rfl
      · exact h2.2.2 b hg b hm rfl
    have hFl : ∀ b ∈ Fs, b < wa.heap.size := fun b hm => (hgb b (by simp [hm])).2
    have O6 := Lib.hid (O5.out.turn ht (fun b hm => by rw [← List.append_assoc] at hm; rcases List.mem_append.1 hm with hm | hm; exact hS1n b (by have := hob b hm; omega); exact hFs b hm))
    have XO6 := Lib.hid ((ht.block _ (Array.getElem?_eq_some_iff.1 XO5.out).1 (hS1n _ (by omega))).trans XO5.out)
    have L6 := Lib.hid (L5.out.turn ht (fun b hm => by change b ∈ ownA li ++ Fs at hm; rcases List.mem_append.1 hm with hm | hm; exact hS1n b (by have := hlb b hm; omega); exact hFs b hm))
    have XL6 := Lib.hid ((ht.block _ (Array.getElem?_eq_some_iff.1 XL5.out).1 (hS1n _ (by omega))).trans XL5.out)
    have P6 := Lib.hid (P5.out.turn ht (fun b hm => hS1n b (by have := hpb b hm; omega)))
    have XP6 := Lib.hid ((ht.block _ (Array.getElem?_eq_some_iff.1 XP5.out).1 (hS1n _ (by omega))).trans XP5.out)
    have Q6 := Lib.hid (Q5.out.turn ht (fun b hm => hS1n b (by have := hqb b hm; omega)))
    have XQ6 := Lib.hid ((ht.block _ (Array.getElem?_eq_some_iff.1 XQ5.out).1 (hS1n _ (by omega))).trans XQ5.out)
    have HB16 := Lib.hid (HB15.out.trans (ht.below (B := w.heap.size) (fun b hm => (hS1 b hm).1) HB15.out.size))
    clear HB15 G5 XG5 O5 XO5 L5 XL5 P5 XP5 Q5 XQ5
    clear ht
    obtain ⟨⟨o0, o1, o2, o3, o4⟩, _⟩ := cellsOf5 XO6.out
    obtain ⟨⟨p0, p1, p2, p3, p4⟩, _⟩ := cellsOf5 XP6.out
    go_wp2_with fail
    clear o0 o1 o2 o3 o4 p0 p1 p2 p3 p4
    refine (self_eq O6.out P6.out).mono ?_; rintro e y2 ⟨rfl, hb⟩
    have O7 := Lib.hid (O6.out.below hb)
    have XO7 := Lib.hid (block_below hb XO6.out)
    have L7 := Lib.hid (L6.out.below hb)
    have XL7 := Lib.hid (block_below hb XL6.out)
    have P7 := Lib.hid (P6.out.below hb)
    have XP7 := Lib.hid (block_below hb XP6.out)
    have Q7 := Lib.hid (Q6.out.below hb)
    have XQ7 := Lib.hid (block_below hb XQ6.out)
    have HB17 := Lib.hid (HB16.out.trans (hb.mono HB16.out.size))
    clear HB16 O6 XO6 L6 XL6 P6 XP6 Q6 XQ6
    clear hb
    obtain ⟨⟨l0, l1, l2, l3, l4⟩, _⟩ := cellsOf5 XL7.out
    obtain ⟨⟨q0, q1, q2, q3, q4⟩, _⟩ := cellsOf5 XQ7.out
    go_wp2_with fail
    clear l0 l1 l2 l3 l4 q0 q1 q2 q3 q4
    refine (self_eq L7.out Q7.out).mono ?_; rintro e y3 ⟨rfl, hb⟩
    have O8 := Lib.hid (O7.out.below hb)
    have XO8 := Lib.hid (block_below hb XO7.out)
    have L8 := Lib.hid (L7.out.below hb)
    have XL8 := Lib.hid (block_below hb XL7.out)
    have P8 := Lib.hid (P7.out.below hb)
    have XP8 := Lib.hid (block_below hb XP7.out)
    have Q8 := Lib.hid (Q7.out.below hb)
    have XQ8 := Lib.hid (block_below hb XQ7.out)
    have HB18 := Lib.hid (HB17.out.trans (hb.mono HB17.out.size))
    clear HB17 O7 XO7 L7 XL7 P7 XP7 Q7 XQ7
    clear hb
    obtain ⟨xs6, Fs6, hr1, hr2, _⟩ := RepF.parts O8.out
    have hsh := shallow_c y3 6 0 ⟨#[]⟩ on ns.length oc oi is.length od _ _ hr1 hr2 hnl hil
    clear hr1 hr2
    obtain ⟨⟨z0, z1, z2, z3, z4⟩, _⟩ := cellsOf5 XO8.out
    go_wp2_with fail
    clear z0 z1 z2 z3 z4
    refine hsh.mono ?_; rintro e y4 ⟨rfl, ht⟩
    clear hsh
    have hS2 : ∀ b, (b ∈ ownA on ∨ b ∈ ownA oi) → wa.heap.size < b ∧ b < wb.heap.size := fun b hm => hob b (by rcases hm with hm | hm <;> simp [hm])
    have hS2n : ∀ b, wb.heap.size ≤ b → ¬ (b ∈ ownA on ∨ b ∈ ownA oi) := fun b hb hm => by have := hS2 b hm; omega
    have L9 := Lib.hid (L8.out.turn ht (fun b hm => by change b ∈ ownA li ++ Fs at hm; rcases List.mem_append.1 hm with hm | hm; exact hS2n b (by have := hlb b hm; omega); exact fun hg => by have := hS2 b hg; have := hFl b hm; omega))
    have XL9 := Lib.hid ((ht.block _ (Array.getElem?_eq_some_iff.1 XL8.out).1 (hS2n _ (by omega))).trans XL8.out)
    have Q9 := Lib.hid (Q8.out.turn ht (fun b hm => hS2n b (by have := hqb b hm; omega)))
    have XQ9 := Lib.hid ((ht.block _ (Array.getElem?_eq_some_iff.1 XQ8.out).1 (hS2n _ (by omega))).trans XQ8.out)
    have HB19 := Lib.hid (HB18.out.trans (ht.below (B := w.heap.size) (fun b hm => by have := hS2 b hm; omega) HB18.out.size))
    clear HB18 O8 XO8 L8 XL8 P8 XP8 Q8 XQ8
    clear ht
    obtain ⟨⟨l0, l1, l2, l3, l4⟩, _⟩ := cellsOf5 XL9.out
    obtain ⟨⟨q0, q1, q2, q3, q4⟩, _⟩ := cellsOf5 XQ9.out
    go_wp2_with fail
    clear l0 l1 l2 l3 l4 q0 q1 q2 q3 q4
    refine (self_eq L9.out Q9.out).mono ?_; rintro e y5 ⟨rfl, hb⟩
    have L10 := Lib.hid (L9.out.below hb)
    have XL10 := Lib.hid (block_below hb XL9.out)
    have Q10 := Lib.hid (Q9.out.below hb)
    have XQ10 := Lib.hid (block_below hb XQ9.out)
    have HB20 := Lib.hid (HB19.out.trans (hb.mono HB19.out.size))
    clear HB19 L9 XL9 Q9 XQ9
    clear hb
    have hlv := live_c y5 (HT.out.below HB20.out)
    go_wp2_with fail
    refine hlv.mono ?_; rintro e y6 ⟨rfl, hb⟩
    have HBz := Lib.hid (HB20.out.trans (hb.mono HB20.out.size))
    clear hb hlv
    go_wp2
    go_ret
    exact ⟨rfl, HBz.out⟩
end Go.Proofs.YtbkbokfegjodnaaDoor
