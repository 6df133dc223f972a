/- The walk of the law SchemaJoins. Conditions: what comes in is of bulk at most 2 to the 20; the tables of package utf8 lie as their texts lay them; the cells of strconv's table are numbers of their kind. -/
import Derived.Test.YtnmojmmgkipjcaaGreatDoorSqp
import Derived.Test.YtnmojmmgkipjcaaGreatDoorSito
import Derived.Test.YtnmojmmgkipjcaaGreatDoorDocb
namespace Go.Proofs.YtnmojmmgkipjcaaGreatDoor
open Go.RowKit
set_option maxRecDepth 20000 in
set_option maxHeartbeats 8000000 in
theorem schemaJoins_c (a b v : JV) (cs ds es : List Value) (w : World) (hr : Rep w (fun _ => True) a cs) (hs : Rep w (fun _ => True) b ds) (hv : Rep w (fun _ => True) v es) (hba : a.bulk ≤ 1048576) (hbb : b.bulk ≤ 1048576) (hbv : v.bulk ≤ 1048576) (hT : Lib.Utf8Tabs 0 1 w) (hU : TabU w) :
    Calls Tryz.prog 3 #[.agg cs.toArray, .agg ds.toArray, .agg es.toArray] w fun e w' => e = .returned (.bool true) ∧ Below w.heap.size w w' := by
  have hr0 := hr
  have hs0 := hs
  have hv0 := hv
  obtain ⟨pn, pm, pi, pc, rfl⟩ := hr.form
  obtain ⟨qn, qm, qi, qc, rfl⟩ := hs.form
  obtain ⟨rn, rm, ri, rc, rfl⟩ := hv.form
  have hb0 : Below w.heap.size w (((w.alloc (.cells #[.int .i64 a.kind, .int .i64 a.int, .string a.text, .slice pn a.names.length pm, .slice pi a.items.length pc] 25)).alloc (.cells #[.int .i64 b.kind, .int .i64 b.int, .string b.text, .slice qn b.names.length qm, .slice qi b.items.length qc] 25)).alloc (.cells #[.int .i64 v.kind, .int .i64 v.int, .string v.text, .slice rn v.names.length rm, .slice ri v.items.length rc] 25)) := (by repeat (first | with_reducible exact Below.refl _ _ | with_reducible refine below_drewN ?_ _ | with_reducible refine Below.drew ?_ | with_reducible refine below_set5 ?_ (by first | (simp; done) | (simp; omega)) | with_reducible refine Below.alloc ?_ (by first | (simp; done) | (simp; omega)) _ | with_reducible refine Below.setCell ?_ (by first | (simp; done) | (simp; omega)) _))
  have HB0 := Lib.hid hb0
  have HR := Lib.hid (hr0.below hb0)
  have HS := Lib.hid (hs0.below hb0)
  have HV := Lib.hid (hv0.below hb0)
  have HT := Lib.hid (tabs_below hT hb0)
  have HU := Lib.hid (hU.below hb0)
  have hX : (((w.alloc (.cells #[.int .i64 a.kind, .int .i64 a.int, .string a.text, .slice pn a.names.length pm, .slice pi a.items.length pc] 25)).alloc (.cells #[.int .i64 b.kind, .int .i64 b.int, .string b.text, .slice qn b.names.length qm, .slice qi b.items.length qc] 25)).alloc (.cells #[.int .i64 v.kind, .int .i64 v.int, .string v.text, .slice rn v.names.length rm, .slice ri v.items.length rc] 25)).heap[w.heap.size]? = some (.cells #[.int .i64 a.kind, .int .i64 a.int, .string a.text, .slice pn a.names.length pm, .slice pi a.items.length pc] 25 (0, 0)) := (((Below.refl _ _).alloc (Nat.le_refl _) _).alloc (by simp) _).block _ (by simp) |>.trans (heap_alloc_new w _)
  have hY : (((w.alloc (.cells #[.int .i64 a.kind, .int .i64 a.int, .string a.text, .slice pn a.names.length pm, .slice pi a.items.length pc] 25)).alloc (.cells #[.int .i64 b.kind, .int .i64 b.int, .string b.text, .slice qn b.names.length qm, .slice qi b.items.length qc] 25)).alloc (.cells #[.int .i64 v.kind, .int .i64 v.int, .string v.text, .slice rn v.names.length rm, .slice ri v.items.length rc] 25)).heap[w.heap.size + 1]? = some (.cells #[.int .i64 b.kind, .int .i64 b.int, .string b.text, .slice qn b.names.length qm, .slice qi b.items.length qc] 25 (0, 0)) := by
    have h := heap_alloc_new (w.alloc (.cells #[.int .i64 a.kind, .int .i64 a.int, .string a.text, .slice pn a.names.length pm, .slice pi a.items.length pc] 25)) (.cells #[.int .i64 b.kind, .int .i64 b.int, .string b.text, .slice qn b.names.length qm, .slice qi b.items.length qc] 25)
    rw [World.size_alloc] at h
    exact (((Below.refl _ _).alloc (Nat.le_refl _) _).block _ (by simp)).trans h
  have hZ : (((w.alloc (.cells #[.int .i64 a.kind, .int .i64 a.int, .string a.text, .slice pn a.names.length pm, .slice pi a.items.length pc] 25)).alloc (.cells #[.int .i64 b.kind, .int .i64 b.int, .string b.text, .slice qn b.names.length qm, .slice qi b.items.length qc] 25)).alloc (.cells #[.int .i64 v.kind, .int .i64 v.int, .string v.text, .slice rn v.names.length rm, .slice ri v.items.length rc] 25)).heap[w.heap.size + 1 + 1]? = some (.cells #[.int .i64 v.kind, .int .i64 v.int, .string v.text, .slice rn v.names.length rm, .slice ri v.items.length rc] 25 (0, 0)) := by
    have h := heap_alloc_new ((w.alloc (.cells #[.int .i64 a.kind, .int .i64 a.int, .string a.text, .slice pn a.names.length pm, .slice pi a.items.length pc] 25)).alloc (.cells #[.int .i64 b.kind, .int .i64 b.int, .string b.text, .slice qn b.names.length qm, .slice qi b.items.length qc] 25)) (.cells #[.int .i64 v.kind, .int .i64 v.int, .string v.text, .slice rn v.names.length rm, .slice ri v.items.length rc] 25)
    rw [World.size_alloc, World.size_alloc] at h
    exact h
  have hsz : (((w.alloc (.cells #[.int .i64 a.kind, .int .i64 a.int, .string a.text, .slice pn a.names.length pm, .slice pi a.items.length pc] 25)).alloc (.cells #[.int .i64 b.kind, .int .i64 b.int, .string b.text, .slice qn b.names.length qm, .slice qi b.items.length qc] 25)).alloc (.cells #[.int .i64 v.kind, .int .i64 v.int, .string v.text, .slice rn v.names.length rm, .slice ri v.items.length rc] 25)).heap.size = w.heap.size + 1 + 1 + 1 := by rw [World.size_alloc, World.size_alloc, World.size_alloc]
  have HX := Lib.hid hX
  have HY := Lib.hid hY
  have HZ := Lib.hid hZ
  have HBK := Lib.hid (show a.bulk ≤ 1048576 ∧ b.bulk ≤ 1048576 ∧ v.bulk ≤ 1048576 from ⟨hba, hbb, hbv⟩)
  have hb1 : Below (((w.alloc (.cells #[.int .i64 a.kind, .int .i64 a.int, .string a.text, .slice pn a.names.length pm, .slice pi a.items.length pc] 25)).alloc (.cells #[.int .i64 b.kind, .int .i64 b.int, .string b.text, .slice qn b.names.length qm, .slice qi b.items.length qc] 25)).alloc (.cells #[.int .i64 v.kind, .int .i64 v.int, .string v.text, .slice rn v.names.length rm, .slice ri v.items.length rc] 25)).heap.size (((w.alloc (.cells #[.int .i64 a.kind, .int .i64 a.int, .string a.text, .slice pn a.names.length pm, .slice pi a.items.length pc] 25)).alloc (.cells #[.int .i64 b.kind, .int .i64 b.int, .string b.text, .slice qn b.names.length qm, .slice qi b.items.length qc] 25)).alloc (.cells #[.int .i64 v.kind, .int .i64 v.int, .string v.text, .slice rn v.names.length rm, .slice ri v.items.length rc] 25)) ((((w.alloc (.cells #[.int .i64 a.kind, .int .i64 a.int, .string a.text, .slice pn a.names.length pm, .slice pi a.items.length pc] 25)).alloc (.cells #[.int .i64 b.kind, .int .i64 b.int, .string b.text, .slice qn b.names.length qm, .slice qi b.items.length qc] 25)).alloc (.cells #[.int .i64 v.kind, .int .i64 v.int, .string v.text, .slice rn v.names.length rm, .slice ri v.items.length rc] 25)).alloc (.cells #[.int .i64 a.kind, .int .i64 a.int, .string a.text, .slice pn a.names.length pm, .slice pi a.items.length pc, .int .i64 b.kind, .int .i64 b.int, .string b.text, .slice qn b.names.length qm, .slice qi b.items.length qc, .int .i64 v.kind, .int .i64 v.int, .string v.text, .slice rn v.names.length rm, .slice ri v.items.length rc] 25)) := (Below.refl _ _).alloc (Nat.le_refl _) _
  have hBn := heap_alloc_new (((w.alloc (.cells #[.int .i64 a.kind, .int .i64 a.int, .string a.text, .slice pn a.names.length pm, .slice pi a.items.length pc] 25)).alloc (.cells #[.int .i64 b.kind, .int .i64 b.int, .string b.text, .slice qn b.names.length qm, .slice qi b.items.length qc] 25)).alloc (.cells #[.int .i64 v.kind, .int .i64 v.int, .string v.text, .slice rn v.names.length rm, .slice ri v.items.length rc] 25)) (.cells #[.int .i64 a.kind, .int .i64 a.int, .string a.text, .slice pn a.names.length pm, .slice pi a.items.length pc, .int .i64 b.kind, .int .i64 b.int, .string b.text, .slice qn b.names.length qm, .slice qi b.items.length qc, .int .i64 v.kind, .int .i64 v.int, .string v.text, .slice rn v.names.length rm, .slice ri v.items.length rc] 25)
  rw [hsz] at hBn
  have HLC := Lib.hid (show Calls Tryz.prog 6 #[.slice (some ⟨w.heap.size + 1 + 1 + 1, 0, none⟩) 3 3] ((((w.alloc (.cells #[.int .i64 a.kind, .int .i64 a.int, .string a.text, .slice pn a.names.length pm, .slice pi a.items.length pc] 25)).alloc (.cells #[.int .i64 b.kind, .int .i64 b.int, .string b.text, .slice qn b.names.length qm, .slice qi b.items.length qc] 25)).alloc (.cells #[.int .i64 v.kind, .int .i64 v.int, .string v.text, .slice rn v.names.length rm, .slice ri v.items.length rc] 25)).alloc (.cells #[.int .i64 a.kind, .int .i64 a.int, .string a.text, .slice pn a.names.length pm, .slice pi a.items.length pc, .int .i64 b.kind, .int .i64 b.int, .string b.text, .slice qn b.names.length qm, .slice qi b.items.length qc, .int .i64 v.kind, .int .i64 v.int, .string v.text, .slice rn v.names.length rm, .slice ri v.items.length rc] 25)) (fun e w' => e = .returned (.bool (largeS [a, b, v])) ∧ Below ((((w.alloc (.cells #[.int .i64 a.kind, .int .i64 a.int, .string a.text, .slice pn a.names.length pm, .slice pi a.items.length pc] 25)).alloc (.cells #[.int .i64 b.kind, .int .i64 b.int, .string b.text, .slice qn b.names.length qm, .slice qi b.items.length qc] 25)).alloc (.cells #[.int .i64 v.kind, .int .i64 v.int, .string v.text, .slice rn v.names.length rm, .slice ri v.items.length rc] 25)).alloc (.cells #[.int .i64 a.kind, .int .i64 a.int, .string a.text, .slice pn a.names.length pm, .slice pi a.items.length pc, .int .i64 b.kind, .int .i64 b.int, .string b.text, .slice qn b.names.length qm, .slice qi b.items.length qc, .int .i64 v.kind, .int .i64 v.int, .string v.text, .slice rn v.names.length rm, .slice ri v.items.length rc] 25)).heap.size ((((w.alloc (.cells #[.int .i64 a.kind, .int .i64 a.int, .string a.text, .slice pn a.names.length pm, .slice pi a.items.length pc] 25)).alloc (.cells #[.int .i64 b.kind, .int .i64 b.int, .string b.text, .slice qn b.names.length qm, .slice qi b.items.length qc] 25)).alloc (.cells #[.int .i64 v.kind, .int .i64 v.int, .string v.text, .slice rn v.names.length rm, .slice ri v.items.length rc] 25)).alloc (.cells #[.int .i64 a.kind, .int .i64 a.int, .string a.text, .slice pn a.names.length pm, .slice pi a.items.length pc, .int .i64 b.kind, .int .i64 b.int, .string b.text, .slice qn b.names.length qm, .slice qi b.items.length qc, .int .i64 v.kind, .int .i64 v.int, .string v.text, .slice rn v.names.length rm, .slice ri v.items.length rc] 25)) w') from
    large_c [a, b, v] (by simp) (fun x hx => by
      rcases List.mem_cons.1 hx with rfl | hx
      · have := HBK.out.1; omega
      · rcases List.mem_cons.1 hx with rfl | hx
        · have := HBK.out.2.1; omega
        · rw [List.mem_singleton.1 hx]; have := HBK.out.2.2; omega) (some ⟨w.heap.size + 1 + 1 + 1, 0, none⟩) 3 _ _ (items_block [(a, [.int .i64 a.kind, .int .i64 a.int, .string a.text, .slice pn a.names.length pm, .slice pi a.items.length pc]), (b, [.int .i64 b.kind, .int .i64 b.int, .string b.text, .slice qn b.names.length qm, .slice qi b.items.length qc]), (v, [.int .i64 v.kind, .int .i64 v.int, .string v.text, .slice rn v.names.length rm, .slice ri v.items.length rc])] (ok := fun _ => True) (fun p hp => by
      rcases List.mem_cons.1 hp with rfl | hp
      · exact HR.out.below hb1
      · rcases List.mem_cons.1 hp with rfl | hp
        · exact HS.out.below hb1
        · rw [List.mem_singleton.1 hp]; exact HV.out.below hb1) hBn))
  have HB1' := Lib.hid hb1
  clear hBn hb1 hr hr0 hs hs0 hv hv0 hT hU hX hY hZ hb0 hba hbb hbv
  obtain ⟨a0, a1, a2, a3, a4⟩ := (cellsOf5 HX.out).1
  obtain ⟨b0, b1, b2, b3, b4⟩ := (cellsOf5 HY.out).1
  obtain ⟨v0, v1, v2, v3, v4⟩ := (cellsOf5 HZ.out).1
  go_enter Tryz.func3, Tryz.ntmps3
  go_wp2_with fail
  with_reducible refine HLC.out.mono ?_
  rintro e w1 ⟨rfl, hbl1⟩
  have hb1 := HB1'.out
  generalize hW0 : (((w.alloc (.cells #[.int .i64 a.kind, .int .i64 a.int, .string a.text, .slice pn a.names.length pm, .slice pi a.items.length pc] 25)).alloc (.cells #[.int .i64 b.kind, .int .i64 b.int, .string b.text, .slice qn b.names.length qm, .slice qi b.items.length qc] 25)).alloc (.cells #[.int .i64 v.kind, .int .i64 v.int, .string v.text, .slice rn v.names.length rm, .slice ri v.items.length rc] 25)) = W0 at *
  have HA1 := Lib.hid (hb1.trans (hbl1.mono hb1.size))
  clear hW0 HLC HB1' hb1 hbl1 a0 a1 a2 a3 a4 b0 b1 b2 b3 b4 v0 v1 v2 v3 v4
  have hx1 : w.heap.size < W0.heap.size := by omega
  have hy1 : w.heap.size + 1 < W0.heap.size := by omega
  have hz1 : w.heap.size + 1 + 1 < W0.heap.size := by omega
  cases hlg : largeS [a, b, v] with
  | true =>
    go_wp2_with fail
    refine (live_c w1 (tabs_below HT.out HA1.out)).mono ?_; rintro e w2 ⟨rfl, hb2⟩
    have HA2 := Lib.hid (HA1.out.trans (hb2.mono HA1.out.size))
    clear hb2
    go_wp2
    go_ret
    exact ⟨rfl, HB0.out.trans (HA2.out.mono HB0.out.size)⟩
  | false =>
    have hvs : v.size ≤ 3000 := small_size hlg (by simp)
    have x1 := (HA1.out.block _ hx1).trans HX.out
    have y1 := (HA1.out.block _ hy1).trans HY.out
    have z1 := (HA1.out.block _ hz1).trans HZ.out
    obtain ⟨a0, a1, a2, a3, a4⟩ := (cellsOf5 x1).1
    obtain ⟨b0, b1, b2, b3, b4⟩ := (cellsOf5 y1).1
    obtain ⟨v0, v1, v2, v3, v4⟩ := (cellsOf5 z1).1
    clear x1 y1 z1 hlg
    have HRA := Lib.hid (refRead_c a (by have := HBK.out.1; omega) _ w1 _ (HR.out.below HA1.out))
    go_wp2_with fail
    refine HRA.out.mono ?_; rintro e w2 ⟨N, rfl, hN, -, hb2⟩
    have HA2 := Lib.hid (HA1.out.trans (hb2.mono HA1.out.size))
    clear HRA a0 a1 a2 a3 a4 b0 b1 b2 b3 b4 v0 v1 v2 v3 v4 hb2
    obtain ⟨a0, a1, a2, a3, a4⟩ := (cellsOf5 ((HA2.out.block _ hx1).trans HX.out)).1
    obtain ⟨b0, b1, b2, b3, b4⟩ := (cellsOf5 ((HA2.out.block _ hy1).trans HY.out)).1
    obtain ⟨v0, v1, v2, v3, v4⟩ := (cellsOf5 ((HA2.out.block _ hz1).trans HZ.out)).1
    have HRB := Lib.hid (refRead_c b (by have := HBK.out.2.1; omega) _ w2 _ (HS.out.below HA2.out))
    obtain ⟨za, HZA⟩ : ∃ z, Hid (readE a = z) := ⟨_, Lib.hid rfl⟩
    obtain ⟨zb, HZB⟩ : ∃ z, Hid (readE b = z) := ⟨_, Lib.hid rfl⟩
    rw [HZA.out]
    go_wp2_with fail
    refine HRB.out.mono ?_; rintro e w3 ⟨M, rfl, hM, -, hb3⟩
    rw [HZB.out]
    have HA3 := Lib.hid (HA2.out.trans (hb3.mono HA2.out.size))
    clear HRB a0 a1 a2 a3 a4 b0 b1 b2 b3 b4 v0 v1 v2 v3 v4 hb3
    by_cases hza : za = 0
    case neg =>
      have hzb : (za != 0) = true := by simp [hza]
      go_wp2_with fail
      refine (live_c w3 (tabs_below HT.out HA3.out)).mono ?_; rintro e w4 ⟨rfl, hb4⟩
      have HA4 := Lib.hid (HA3.out.trans (hb4.mono HA3.out.size))
      clear hb4
      go_wp2
      go_ret
      exact ⟨rfl, HB0.out.trans (HA4.out.mono HB0.out.size)⟩
    by_cases hzb : zb = 0
    case neg =>
      subst hza
      have hzc : (zb != 0) = true := by simp [hzb]
      go_wp2_with fail
      refine (live_c w3 (tabs_below HT.out HA3.out)).mono ?_; rintro e w4 ⟨rfl, hb4⟩
      have HA4 := Lib.hid (HA3.out.trans (hb4.mono HA3.out.size))
      clear hb4
      go_wp2
      go_ret
      exact ⟨rfl, HB0.out.trans (HA4.out.mono HB0.out.size)⟩
    by_cases hnm : 126 < (N : Int) + (M : Int)
    case pos =>
      subst hza hzb
      go_wp2_with fail
      refine (live_c w3 (tabs_below HT.out HA3.out)).mono ?_; rintro e w4 ⟨rfl, hb4⟩
      have HA4 := Lib.hid (HA3.out.trans (hb4.mono HA3.out.size))
      clear hb4
      go_wp2
      go_ret
      exact ⟨rfl, HB0.out.trans (HA4.out.mono HB0.out.size)⟩
    subst hza hzb
    have hga := readE_good.1 HZA.out
    have hgb := readE_good.1 HZB.out
    have HGA := Lib.hid (And.intro hga hgb)
    obtain ⟨ka, HKA⟩ : ∃ z, Hid (keepsR a v = z) := ⟨_, Lib.hid rfl⟩
    obtain ⟨kb, HKB⟩ : ∃ z, Hid (keepsR b v = z) := ⟨_, Lib.hid rfl⟩
    obtain ⟨a0, a1, a2, a3, a4⟩ := (cellsOf5 ((HA3.out.block _ hx1).trans HX.out)).1
    obtain ⟨b0, b1, b2, b3, b4⟩ := (cellsOf5 ((HA3.out.block _ hy1).trans HY.out)).1
    obtain ⟨v0, v1, v2, v3, v4⟩ := (cellsOf5 ((HA3.out.block _ hz1).trans HZ.out)).1
    have HVS := Lib.hid hvs
    have HKP := Lib.hid (fun (s : JV) (cs : List Value) (W : World) (okS : Nat → Prop) (hs : Rep W okS s cs) (hB : Below W0.heap.size W0 W) (hk : s.bulk ≤ 1099511627776) => keeps_c 3001 s v hk (by have := HVS.out; omega) (by have := HBK.out.2.2; omega) cs _ W okS _ hs (HV.out.below hB) (tabs_below HT.out hB) (itoC_all W (TabU.below HU.out hB)))
    have HK1 := Lib.hid (HKP.out a _ w3 _ (HR.out.below HA3.out) HA3.out (by have := HBK.out.1; omega))
    rw [HKA.out, hga] at HK1
    clear hga hvs
    go_wp2_with fail
    refine HK1.out.mono ?_; rintro e w4 ⟨rfl, hb4⟩
    have HA4 := Lib.hid (HA3.out.trans (hb4.mono HA3.out.size))
    have HK2 := Lib.hid (HKP.out b _ w4 _ (HS.out.below HA4.out) HA4.out (by have := HBK.out.2.1; omega))
    rw [HKB.out, hgb] at HK2
    clear hgb HK1 hb4 a0 a1 a2 a3 a4 b0 b1 b2 b3 b4 v0 v1 v2 v3 v4
    obtain ⟨a0, a1, a2, a3, a4⟩ := (cellsOf5 ((HA4.out.block _ hx1).trans HX.out)).1
    obtain ⟨b0, b1, b2, b3, b4⟩ := (cellsOf5 ((HA4.out.block _ hy1).trans HY.out)).1
    obtain ⟨v0, v1, v2, v3, v4⟩ := (cellsOf5 ((HA4.out.block _ hz1).trans HZ.out)).1
    go_wp2_with fail
    refine HK2.out.mono ?_; rintro e w5 ⟨rfl, hb5⟩
    have HA5 := Lib.hid (HA4.out.trans (hb5.mono HA4.out.size))
    clear HK2 hb5 a0 a1 a2 a3 a4 b0 b1 b2 b3 b4 v0 v1 v2 v3 v4
    have ha5 : Below w5.heap.size w5 (w5.alloc (.cells #[.int .i64 6, .int .i64 0, .string ⟨#[]⟩, .slice none 0 0, .slice none 0 0] 25)) := (Below.refl _ _).alloc (Nat.le_refl _) _
    have HA6 := Lib.hid (HA5.out.trans (ha5.mono HA5.out.size))
    obtain ⟨a0, a1, a2, a3, a4⟩ := (cellsOf5 ((HA6.out.block _ hx1).trans HX.out)).1
    obtain ⟨t0, t1, t2, t3, t4⟩ := (cellsOf5 (TnAt.start w5).blk).1
    have HSH := Lib.hid (goodB_shape HGA.out.1)
    have hal : a.items.length ≤ 1099511627776 := by
      have h1 := HBK.out.1
      have h2 := names_len a
      have h3 := HSH.out.2
      omega
    have HAL := Lib.hid hal
    have HTS := Lib.hid (show TnAt w5 w5.heap.size (a.names.drop a.items.length).reverse (.slice none 0 0) (a.items.drop a.items.length).reverse (.slice none 0 0) [] (w5.alloc (.cells #[.int .i64 6, .int .i64 0, .string ⟨#[]⟩, .slice none 0 0, .slice none 0 0] 25)) from by
      rw [List.drop_length, show a.items.length = a.names.length from HSH.out.2, List.drop_length]
      exact TnAt.start w5)
    have HAA := Lib.hid ha5
    clear ha5 hnm
    go_wp2
    go_loopw [16] (fun i wr => ∃ (k : Nat) (z : Int) (na ia : Option Addr) (nc ic : Nat) (xs : List Value), k ≤ a.items.length ∧ i = .int .i64 z ∧ z = (k : Int) - 1 ∧ Hid (TnAt w5 w5.heap.size (a.names.drop k).reverse (.slice na (a.names.drop k).reverse.length nc) (a.items.drop k).reverse (.slice ia (a.items.drop k).reverse.length ic) xs wr) ∧ Hid (Below w5.heap.size w5 wr)) (fun i _ => (intOf i + 1).toNat)
    case atStart =>
      refine ⟨a.items.length, _, none, none, 0, 0, [], Nat.le_refl _, rfl, by first | rfl | omega, Lib.hid ?_, HAA⟩
      have h := HTS.out
      have e1 : (a.items.drop a.items.length).reverse.length = 0 := by simp
      have e2 : (a.names.drop a.items.length).reverse.length = 0 := by rw [show a.items.length = a.names.length from HSH.out.2]; simp
      rw [e1, e2]
      exact h
    case round =>
      clear HTS t0 t1 t2 t3 t4 a0 a1 a2 a3 a4 hal
      obtain ⟨k, z, na, ia, nc, ic, xs, hk, rfl, hz, HTN, HBL⟩ := hrel
      have HAr := Lib.hid (HA5.out.trans (HBL.out.mono HA5.out.size))
      obtain ⟨a0, a1, a2, a3, a4⟩ := (cellsOf5 ((HAr.out.block _ hx1).trans HX.out)).1
      rcases k with _ | k
      · obtain rfl : z = -1 := by omega
        clear hz hk
        simp only [List.drop_zero, List.length_reverse] at HTN
        obtain ⟨v0, v1, v2, v3, v4⟩ := (cellsOf5 ((HAr.out.block _ hz1).trans HZ.out)).1
        have hb6 := HTN.out.blk
        obtain ⟨t0, t1, t2, t3, t4⟩ := (cellsOf5 hb6).1
        have HTG := Lib.hid (turned_good HGA.out.1)
        have HK3 := Lib.hid (HKP.out (turnedJ a) _ wr _ HTN.out.rep HAr.out (by have := turned_bulk a; have := HBK.out.1; omega))
        have hke : keepsR (turnedJ a) v = ka := by
          rw [← HKA.out, keepsR, keepsR, HTG.out.1, HGA.out.1, HTG.out.2 v]
        rw [hke, HTG.out.1] at HK3
        clear hb6 hke
        go_wp2_with fail
        with_reducible refine HK3.out.mono ?_; rintro e w6 ⟨rfl, hb6⟩
        have HA7 := Lib.hid (HAr.out.trans (hb6.mono HAr.out.size))
        clear HK3 hb6 a0 a1 a2 a3 a4 t0 t1 t2 t3 t4 v0 v1 v2 v3 v4 HTN HTG
        have HSS := Lib.hid (fun (W' : World) (hW : Below W0.heap.size W0 W') => (show (fun w' => w'.cell? ⟨w.heap.size, 0, none⟩ = some (.int .i64 a.kind) ∧ w'.cell? ⟨w.heap.size, 1, none⟩ = some (.int .i64 a.int) ∧ w'.cell? ⟨w.heap.size, 2, none⟩ = some (.string a.text) ∧ w'.cell? ⟨w.heap.size, 3, none⟩ = some (.slice pn a.names.length pm) ∧ w'.cell? ⟨w.heap.size, 4, none⟩ = some (.slice pi a.items.length pc) ∧ w'.cell? ⟨w.heap.size + 1, 0, none⟩ = some (.int .i64 b.kind) ∧ w'.cell? ⟨w.heap.size + 1, 1, none⟩ = some (.int .i64 b.int) ∧ w'.cell? ⟨w.heap.size + 1, 2, none⟩ = some (.string b.text) ∧ w'.cell? ⟨w.heap.size + 1, 3, none⟩ = some (.slice qn b.names.length qm) ∧ w'.cell? ⟨w.heap.size + 1, 4, none⟩ = some (.slice qi b.items.length qc) ∧ w'.cell? ⟨w.heap.size + 1 + 1, 0, none⟩ = some (.int .i64 v.kind) ∧ w'.cell? ⟨w.heap.size + 1 + 1, 1, none⟩ = some (.int .i64 v.int) ∧ w'.cell? ⟨w.heap.size + 1 + 1, 2, none⟩ = some (.string v.text) ∧ w'.cell? ⟨w.heap.size + 1 + 1, 3, none⟩ = some (.slice rn v.names.length rm) ∧ w'.cell? ⟨w.heap.size + 1 + 1, 4, none⟩ = some (.slice ri v.items.length rc)) W' from by
          obtain ⟨a0, a1, a2, a3, a4⟩ := (cellsOf5 ((hW.block _ hx1).trans HX.out)).1
          obtain ⟨b0, b1, b2, b3, b4⟩ := (cellsOf5 ((hW.block _ hy1).trans HY.out)).1
          obtain ⟨v0, v1, v2, v3, v4⟩ := (cellsOf5 ((hW.block _ hz1).trans HZ.out)).1
          exact ⟨a0, a1, a2, a3, a4, b0, b1, b2, b3, b4, v0, v1, v2, v3, v4⟩))
        obtain ⟨g1, HG1⟩ : ∃ z, Hid (goodB (jobj ⟨#[110, 111, 116]⟩ a) = z) := ⟨_, Lib.hid rfl⟩
        obtain ⟨k1, HKV1⟩ : ∃ z, Hid (keepsR (jobj ⟨#[110, 111, 116]⟩ a) v = z) := ⟨_, Lib.hid rfl⟩
        obtain ⟨g2, HG2⟩ : ∃ z, Hid (goodB (jobj ⟨#[97, 108, 108, 79, 102]⟩ (twoJ a b)) = z) := ⟨_, Lib.hid rfl⟩
        obtain ⟨k2, HKV2⟩ : ∃ z, Hid (keepsR (jobj ⟨#[97, 108, 108, 79, 102]⟩ (twoJ a b)) v = z) := ⟨_, Lib.hid rfl⟩
        obtain ⟨g3, HG3⟩ : ∃ z, Hid (goodB (jobj ⟨#[97, 110, 121, 79, 102]⟩ (twoJ a b)) = z) := ⟨_, Lib.hid rfl⟩
        obtain ⟨k3, HKV3⟩ : ∃ z, Hid (keepsR (jobj ⟨#[97, 110, 121, 79, 102]⟩ (twoJ a b)) v = z) := ⟨_, Lib.hid rfl⟩
        obtain ⟨zd, HZD⟩ : ∃ z, Hid (readE (jobj ⟨#[97, 108, 108, 79, 102]⟩ (twoJ a b)) = z) := ⟨_, Lib.hid rfl⟩
        have HQ1 := Lib.hid (fun (cs : List Value) (W : World) (okS : Nat → Prop) (hs : Rep W okS (jobj ⟨#[110, 111, 116]⟩ a) cs) (hB : Below W0.heap.size W0 W) => (show Calls Tryz.prog 9 #[.agg cs.toArray, .agg #[.int .i64 v.kind, .int .i64 v.int, .string v.text, .slice rn v.names.length rm, .slice ri v.items.length rc]] W (fun e w' => e = .returned (.tuple #[.bool k1, .bool g1]) ∧ Below W.heap.size W w') from by
          rw [← HG1.out, ← HKV1.out]
          exact HKP.out (jobj ⟨#[110, 111, 116]⟩ a) cs W okS hs hB (by rw [obj_bulk, show (⟨#[110, 111, 116]⟩ : ByteArray).size = 3 from rfl]; have := HBK.out.1; have := HBK.out.2.1; omega)))
        have HQ2 := Lib.hid (fun (cs : List Value) (W : World) (okS : Nat → Prop) (hs : Rep W okS (jobj ⟨#[97, 108, 108, 79, 102]⟩ (twoJ a b)) cs) (hB : Below W0.heap.size W0 W) => (show Calls Tryz.prog 9 #[.agg cs.toArray, .agg #[.int .i64 v.kind, .int .i64 v.int, .string v.text, .slice rn v.names.length rm, .slice ri v.items.length rc]] W (fun e w' => e = .returned (.tuple #[.bool k2, .bool g2]) ∧ Below W.heap.size W w') from by
          rw [← HG2.out, ← HKV2.out]
          exact HKP.out (jobj ⟨#[97, 108, 108, 79, 102]⟩ (twoJ a b)) cs W okS hs hB (by rw [obj_bulk, two_bulk, show (⟨#[97, 108, 108, 79, 102]⟩ : ByteArray).size = 5 from rfl]; have := HBK.out.1; have := HBK.out.2.1; omega)))
        have HQ3 := Lib.hid (fun (cs : List Value) (W : World) (okS : Nat → Prop) (hs : Rep W okS (jobj ⟨#[97, 110, 121, 79, 102]⟩ (twoJ a b)) cs) (hB : Below W0.heap.size W0 W) => (show Calls Tryz.prog 9 #[.agg cs.toArray, .agg #[.int .i64 v.kind, .int .i64 v.int, .string v.text, .slice rn v.names.length rm, .slice ri v.items.length rc]] W (fun e w' => e = .returned (.tuple #[.bool k3, .bool g3]) ∧ Below W.heap.size W w') from by
          rw [← HG3.out, ← HKV3.out]
          exact HKP.out (jobj ⟨#[97, 110, 121, 79, 102]⟩ (twoJ a b)) cs W okS hs hB (by rw [obj_bulk, two_bulk, show (⟨#[97, 110, 121, 79, 102]⟩ : ByteArray).size = 5 from rfl]; have := HBK.out.1; have := HBK.out.2.1; omega)))
        have HLST := Lib.hid (fun (W : World) (hW : Below W0.heap.size W0 W) => vres_out (show Calls Tryz.prog 11 #[.slice (some ⟨W.heap.size, 0, none⟩) 2 2] (W.alloc (.cells #[.int .i64 a.kind, .int .i64 a.int, .string a.text, .slice pn a.names.length pm, .slice pi a.items.length pc, .int .i64 b.kind, .int .i64 b.int, .string b.text, .slice qn b.names.length qm, .slice qi b.items.length qc] 25)).drew (VRes (W.alloc (.cells #[.int .i64 a.kind, .int .i64 a.int, .string a.text, .slice pn a.names.length pm, .slice pi a.items.length pc, .int .i64 b.kind, .int .i64 b.int, .string b.text, .slice qn b.names.length qm, .slice qi b.items.length qc] 25)).drew (fun b => True ∨ b = W.heap.size) (twoJ a b)) from mkList_c [a, b] (some ⟨W.heap.size, 0, none⟩) 2 ⟨by show 2 ≤ 2; omega, by unfold maxLen; omega⟩ (W.alloc (.cells #[.int .i64 a.kind, .int .i64 a.int, .string a.text, .slice pn a.names.length pm, .slice pi a.items.length pc, .int .i64 b.kind, .int .i64 b.int, .string b.text, .slice qn b.names.length qm, .slice qi b.items.length qc] 25)).drew _ (items_block [(a, [.int .i64 a.kind, .int .i64 a.int, .string a.text, .slice pn a.names.length pm, .slice pi a.items.length pc]), (b, [.int .i64 b.kind, .int .i64 b.int, .string b.text, .slice qn b.names.length qm, .slice qi b.items.length qc])] (ok := fun _ => True) (fun p hp => by
          rcases List.mem_cons.1 hp with rfl | hp
          · exact HR.out.below (Below.drew (hW.alloc (hW.size) _))
          · rw [List.mem_singleton.1 hp]; exact HS.out.below (Below.drew (hW.alloc (hW.size) _))) (heap_alloc_new W _))))
        have HLSU := Lib.hid (fun (W : World) (hW : Below W0.heap.size W0 W) => vres_out (show Calls Tryz.prog 11 #[.slice (some ⟨W.heap.size, 0, none⟩) 2 2] (W.alloc (.cells #[.int .i64 a.kind, .int .i64 a.int, .string a.text, .slice pn a.names.length pm, .slice pi a.items.length pc, .int .i64 b.kind, .int .i64 b.int, .string b.text, .slice qn b.names.length qm, .slice qi b.items.length qc] 25)) (VRes (W.alloc (.cells #[.int .i64 a.kind, .int .i64 a.int, .string a.text, .slice pn a.names.length pm, .slice pi a.items.length pc, .int .i64 b.kind, .int .i64 b.int, .string b.text, .slice qn b.names.length qm, .slice qi b.items.length qc] 25)) (fun b => True ∨ b = W.heap.size) (twoJ a b)) from mkList_c [a, b] (some ⟨W.heap.size, 0, none⟩) 2 ⟨by show 2 ≤ 2; omega, by unfold maxLen; omega⟩ (W.alloc (.cells #[.int .i64 a.kind, .int .i64 a.int, .string a.text, .slice pn a.names.length pm, .slice pi a.items.length pc, .int .i64 b.kind, .int .i64 b.int, .string b.text, .slice qn b.names.length qm, .slice qi b.items.length qc] 25)) _ (items_block [(a, [.int .i64 a.kind, .int .i64 a.int, .string a.text, .slice pn a.names.length pm, .slice pi a.items.length pc]), (b, [.int .i64 b.kind, .int .i64 b.int, .string b.text, .slice qn b.names.length qm, .slice qi b.items.length qc])] (ok := fun _ => True) (fun p hp => by
          rcases List.mem_cons.1 hp with rfl | hp
          · exact HR.out.below (hW.alloc (hW.size) _)
          · rw [List.mem_singleton.1 hp]; exact HS.out.below (hW.alloc (hW.size) _)) (heap_alloc_new W _))))
        have HD := Lib.hid (Below.drew HA7.out)
        have HO1 := Lib.hid (vres_out (object_c ⟨#[110, 111, 116]⟩ a [.int .i64 a.kind, .int .i64 a.int, .string a.text, .slice pn a.names.length pm, .slice pi a.items.length pc] _ _ (HR.out.below HD.out)))
        go_upto_region 20 with (fail)
        go_region_held3 (fun w' => w'.cell? ⟨w.heap.size, 0, none⟩ = some (.int .i64 a.kind) ∧ w'.cell? ⟨w.heap.size, 1, none⟩ = some (.int .i64 a.int) ∧ w'.cell? ⟨w.heap.size, 2, none⟩ = some (.string a.text) ∧ w'.cell? ⟨w.heap.size, 3, none⟩ = some (.slice pn a.names.length pm) ∧ w'.cell? ⟨w.heap.size, 4, none⟩ = some (.slice pi a.items.length pc) ∧ w'.cell? ⟨w.heap.size + 1, 0, none⟩ = some (.int .i64 b.kind) ∧ w'.cell? ⟨w.heap.size + 1, 1, none⟩ = some (.int .i64 b.int) ∧ w'.cell? ⟨w.heap.size + 1, 2, none⟩ = some (.string b.text) ∧ w'.cell? ⟨w.heap.size + 1, 3, none⟩ = some (.slice qn b.names.length qm) ∧ w'.cell? ⟨w.heap.size + 1, 4, none⟩ = some (.slice qi b.items.length qc) ∧ w'.cell? ⟨w.heap.size + 1 + 1, 0, none⟩ = some (.int .i64 v.kind) ∧ w'.cell? ⟨w.heap.size + 1 + 1, 1, none⟩ = some (.int .i64 v.int) ∧ w'.cell? ⟨w.heap.size + 1 + 1, 2, none⟩ = some (.string v.text) ∧ w'.cell? ⟨w.heap.size + 1 + 1, 3, none⟩ = some (.slice rn v.names.length rm) ∧ w'.cell? ⟨w.heap.size + 1 + 1, 4, none⟩ = some (.slice ri v.items.length rc)) (exact HSS.out _ (by first | with_reducible exact HD.out | with_reducible exact hB1 | with_reducible exact hB2)) (first
          | (go_at_call 9; with_reducible refine (HQ1.out _ _ _ HRo.out hB1).mono ?_; rintro e x2 ⟨rfl, hb2⟩; have hB2 := hB1.trans (hb2.mono hB1.size); dsimp only)
          | (go_at_call 10; with_reducible refine HO1.out.mono ?_; rintro e x1 ⟨c1, rfl, HRo, HBo⟩; have hB1 := HD.out.trans (HBo.out.mono HD.out.size); dsimp only))
        have HA8 := Lib.hid hB2
        clear HD HO1 hB1 hB2 hb2 HRo HBo
        have HP0 := HA8
        have HE := Lib.hid (Below.drew HA8.out)
        have HL2 := Lib.hid (HLST.out _ HP0.out)
        go_upto_region 21 with (fail)
        go_region_held3 (fun w' => w'.cell? ⟨w.heap.size, 0, none⟩ = some (.int .i64 a.kind) ∧ w'.cell? ⟨w.heap.size, 1, none⟩ = some (.int .i64 a.int) ∧ w'.cell? ⟨w.heap.size, 2, none⟩ = some (.string a.text) ∧ w'.cell? ⟨w.heap.size, 3, none⟩ = some (.slice pn a.names.length pm) ∧ w'.cell? ⟨w.heap.size, 4, none⟩ = some (.slice pi a.items.length pc) ∧ w'.cell? ⟨w.heap.size + 1, 0, none⟩ = some (.int .i64 b.kind) ∧ w'.cell? ⟨w.heap.size + 1, 1, none⟩ = some (.int .i64 b.int) ∧ w'.cell? ⟨w.heap.size + 1, 2, none⟩ = some (.string b.text) ∧ w'.cell? ⟨w.heap.size + 1, 3, none⟩ = some (.slice qn b.names.length qm) ∧ w'.cell? ⟨w.heap.size + 1, 4, none⟩ = some (.slice qi b.items.length qc) ∧ w'.cell? ⟨w.heap.size + 1 + 1, 0, none⟩ = some (.int .i64 v.kind) ∧ w'.cell? ⟨w.heap.size + 1 + 1, 1, none⟩ = some (.int .i64 v.int) ∧ w'.cell? ⟨w.heap.size + 1 + 1, 2, none⟩ = some (.string v.text) ∧ w'.cell? ⟨w.heap.size + 1 + 1, 3, none⟩ = some (.slice rn v.names.length rm) ∧ w'.cell? ⟨w.heap.size + 1 + 1, 4, none⟩ = some (.slice ri v.items.length rc)) (exact HSS.out _ (by first | with_reducible exact HP0.out | with_reducible exact HE.out | with_reducible exact (HP0.out.alloc HP0.out.size _) | with_reducible exact hB1 | with_reducible exact hB2 | with_reducible exact hB3 | with_reducible exact Below.drew (HP0.out.alloc HP0.out.size _))) (first
          | (go_at_call 9; with_reducible refine (HQ2.out _ _ _ HRo.out hB2).mono ?_; rintro e x3 ⟨rfl, hb3⟩; have hB3 := hB2.trans (hb3.mono hB2.size); dsimp only)
          | (go_at_call 10; with_reducible refine (vres_out (object_c ⟨#[97, 108, 108, 79, 102]⟩ (twoJ a b) _ _ _ HRl.out)).mono ?_; rintro e x2 ⟨c2, rfl, HRo, HBo⟩; have hB2 := hB1.trans (HBo.out.mono hB1.size); dsimp only)
          | (go_at_call 11; with_reducible refine HL2.out.mono ?_; rintro e x1 ⟨c1, rfl, HRl, HBl⟩; have hB1 := Below.trans (Below.drew (HP0.out.alloc HP0.out.size _)) (HBl.out.mono (Below.drew (HP0.out.alloc HP0.out.size _)).size); dsimp only))
        have HA9 := Lib.hid hB3
        clear HE HP0 HL2 hB1 hB2 hB3 hb3 HRo HBo HRl HBl
        have HP0 := HA9
        have HE := Lib.hid (Below.drew HA9.out)
        have HL2 := Lib.hid (HLST.out _ HP0.out)
        go_upto_region 22 with (fail)
        go_region_held3 (fun w' => w'.cell? ⟨w.heap.size, 0, none⟩ = some (.int .i64 a.kind) ∧ w'.cell? ⟨w.heap.size, 1, none⟩ = some (.int .i64 a.int) ∧ w'.cell? ⟨w.heap.size, 2, none⟩ = some (.string a.text) ∧ w'.cell? ⟨w.heap.size, 3, none⟩ = some (.slice pn a.names.length pm) ∧ w'.cell? ⟨w.heap.size, 4, none⟩ = some (.slice pi a.items.length pc) ∧ w'.cell? ⟨w.heap.size + 1, 0, none⟩ = some (.int .i64 b.kind) ∧ w'.cell? ⟨w.heap.size + 1, 1, none⟩ = some (.int .i64 b.int) ∧ w'.cell? ⟨w.heap.size + 1, 2, none⟩ = some (.string b.text) ∧ w'.cell? ⟨w.heap.size + 1, 3, none⟩ = some (.slice qn b.names.length qm) ∧ w'.cell? ⟨w.heap.size + 1, 4, none⟩ = some (.slice qi b.items.length qc) ∧ w'.cell? ⟨w.heap.size + 1 + 1, 0, none⟩ = some (.int .i64 v.kind) ∧ w'.cell? ⟨w.heap.size + 1 + 1, 1, none⟩ = some (.int .i64 v.int) ∧ w'.cell? ⟨w.heap.size + 1 + 1, 2, none⟩ = some (.string v.text) ∧ w'.cell? ⟨w.heap.size + 1 + 1, 3, none⟩ = some (.slice rn v.names.length rm) ∧ w'.cell? ⟨w.heap.size + 1 + 1, 4, none⟩ = some (.slice ri v.items.length rc)) (exact HSS.out _ (by first | with_reducible exact HP0.out | with_reducible exact HE.out | with_reducible exact (HP0.out.alloc HP0.out.size _) | with_reducible exact hB1 | with_reducible exact hB2 | with_reducible exact hB3 | with_reducible exact Below.drew (HP0.out.alloc HP0.out.size _))) (first
          | (go_at_call 9; with_reducible refine (HQ3.out _ _ _ HRo.out hB2).mono ?_; rintro e x3 ⟨rfl, hb3⟩; have hB3 := hB2.trans (hb3.mono hB2.size); dsimp only)
          | (go_at_call 10; with_reducible refine (vres_out (object_c ⟨#[97, 110, 121, 79, 102]⟩ (twoJ a b) _ _ _ HRl.out)).mono ?_; rintro e x2 ⟨c2, rfl, HRo, HBo⟩; have hB2 := hB1.trans (HBo.out.mono hB1.size); dsimp only)
          | (go_at_call 11; with_reducible refine HL2.out.mono ?_; rintro e x1 ⟨c1, rfl, HRl, HBl⟩; have hB1 := Below.trans (Below.drew (HP0.out.alloc HP0.out.size _)) (HBl.out.mono (Below.drew (HP0.out.alloc HP0.out.size _)).size); dsimp only))
        have HA10 := Lib.hid hB3
        clear HE HP0 HL2 hB1 hB2 hB3 hb3 HRo HBo HRl HBl
        have HL3 := Lib.hid (HLSU.out _ HA10.out)
        obtain ⟨a0, a1, a2, a3, a4, b0, b1, b2, b3, b4, -⟩ := HSS.out _ HA10.out
        go_wp2_with fail
        with_reducible refine HL3.out.mono ?_; rintro e x1 ⟨c1, rfl, HRl, HBl⟩
        have HA11 := Lib.hid (Below.trans (HA10.out.alloc HA10.out.size _) (HBl.out.mono (HA10.out.alloc HA10.out.size _).size))
        clear HL3 HBl a0 a1 a2 a3 a4 b0 b1 b2 b3 b4
        go_wp2_with fail
        refine (vres_out (object_c ⟨#[97, 108, 108, 79, 102]⟩ (twoJ a b) _ _ _ HRl.out)).mono ?_; rintro e x2 ⟨c2, rfl, HRo, HBo⟩
        have HA12 := Lib.hid (HA11.out.trans (HBo.out.mono HA11.out.size))
        have HRD := Lib.hid (refRead_c (jobj ⟨#[97, 108, 108, 79, 102]⟩ (twoJ a b)) (by rw [obj_bulk, two_bulk, show (⟨#[97, 108, 108, 79, 102]⟩ : ByteArray).size = 5 from rfl]; have := HBK.out.1; have := HBK.out.2.1; omega) _ x2 _ HRo.out)
        clear HBo HRl HRo
        go_wp2_with fail
        refine HRD.out.mono ?_; rintro e x3 ⟨N3, rfl, -, -, hb13⟩
        rw [HZD.out]
        have HA13 := Lib.hid (HA12.out.trans (hb13.mono HA12.out.size))
        clear HRD hb13
        by_cases hzd : zd = 0
        case neg =>
          have hzd2 : (zd != 0) = true := by simp [hzd]
          have hg2 : g2 = false := by
            rw [← HG2.out]
            cases hgg : goodB (jobj ⟨#[97, 108, 108, 79, 102]⟩ (twoJ a b)) with
            | false => rfl
            | true => exact absurd (HZD.out.symm.trans (readE_good.2 hgg)) hzd
          subst hg2
          go_wp2_with fail
          refine (live_c _ (tabs_below HT.out HA13.out)).mono ?_; rintro e y1 ⟨rfl, hb14⟩
          have HA14 := Lib.hid (HA13.out.trans (hb14.mono HA13.out.size))
          clear hb14
          go_wp2
          go_ret
          exact ⟨rfl, HB0.out.trans (HA14.out.mono HB0.out.size)⟩
        subst hzd
        have h2 := readE_good.1 HZD.out
        have h1 := joins_good h2
        have e1 : k1 = !ka := by rw [← HKV1.out, ← HKA.out, keepsR, keepsR, h1.1, HGA.out.1, not_fault, Bool.true_and, Bool.true_and]
        have e2 : k2 = (ka && kb) := by rw [← HKV2.out, ← HKA.out, ← HKB.out, keepsR, keepsR, keepsR, h2, HGA.out.1, HGA.out.2, all_fault, Bool.true_and, Bool.true_and, Bool.true_and]
        have e3 : k3 = (ka || kb) := by rw [← HKV3.out, ← HKA.out, ← HKB.out, keepsR, keepsR, keepsR, h1.2, HGA.out.1, HGA.out.2, any_fault, Bool.true_and, Bool.true_and, Bool.true_and]
        obtain rfl : g1 = true := HG1.out.symm.trans h1.1
        obtain rfl : g2 = true := HG2.out.symm.trans h2
        obtain rfl : g3 = true := HG3.out.symm.trans h1.2
        clear h1 h2 HQ1 HQ2 HQ3 HKP HLST HLSU HSS
        cases ka <;> cases kb <;> simp only [Bool.not_true, Bool.not_false, Bool.and_true, Bool.and_false, Bool.or_true, Bool.or_false] at e1 e2 e3 <;> subst e1 e2 e3
        all_goals (
          go_wp2_with fail
          refine (live_c _ (tabs_below HT.out HA13.out)).mono ?_; rintro e y1 ⟨rfl, hb14⟩
          have HA14 := Lib.hid (HA13.out.trans (hb14.mono HA13.out.size))
          clear hb14
          go_wp2
          go_ret
          exact ⟨rfl, HB0.out.trans (HA14.out.mono HB0.out.size)⟩)
      · obtain rfl : z = (k : Int) := by omega
        have hki : k < a.items.length := by omega
        have hk2 : k ≤ 1099511627776 := by have := HAL.out; omega
        have hkn : k < a.names.length := by have := HSH.out.2; omega
        obtain ⟨hst, hit, hl1, hl2, hl3, hl4⟩ := rep_lists (HR.out.below HA5.out)
        obtain ⟨nb, noff, rfl, hn0⟩ := hst.at k hkn
        have hn1 := cell_below HBL.out hn0
        obtain ⟨ib, ioff, xan, xcn, xai, xci, rfl, hri, hli⟩ := hit.at k hki
        have HLI0 := Lib.hid hli
        obtain ⟨l0, l1, l2, l3, l4⟩ := lie5 (lie_below hli HBL.out)
        have HLN := Lib.hid (show (a.names.drop (k + 1)).reverse ++ [a.names[k]] = (a.names.drop k).reverse by rw [List.drop_eq_getElem_cons hkn, List.reverse_cons])
        have HLI := Lib.hid (show (a.items.drop (k + 1)).reverse ++ [a.items[k]] = (a.items.drop k).reverse by rw [List.drop_eq_getElem_cons hki, List.reverse_cons])
        have hb1 : (a.names.drop (k + 1)).reverse.length ≤ 1099511627776 := by have := HAL.out; have := HSH.out.2; simp; omega
        have hb2 : (a.items.drop (k + 1)).reverse.length ≤ 1099511627776 := by have := HAL.out; simp; omega
        have HRI := Lib.hid (Rep.kept (ok' := fun b => b < w5.heap.size) (fun b hlt ho => ⟨hlt, rfl⟩) _ _ hri)
        clear hst hit hri hli hn0 hl1 hl2 hl3 hl4 hz
        generalize (a.names.drop (k + 1)).reverse = LN at *
        generalize (a.items.drop (k + 1)).reverse = LI at *
        generalize a.names[k] = nm at *
        generalize a.items[k] = it at *
        have p3 := cell_of_row wr _ 3 _ _ _ HTN.out.blk
        have p4 := cell_of_row wr _ 4 _ _ _ HTN.out.blk
        simp only [List.getElem?_toArray, List.getElem?_cons_zero, List.getElem?_cons_succ] at p3 p4
        have p3d := cell_below (Below.drew ((Below.refl wr.heap.size wr).alloc (Nat.le_refl _) (.cells #[.string nm] 9))) p3
        go_wp2_with fail
        go_region_law (
          refine step_app strTy (by rfl) _ _ (by rfl) (.slice na LN.length nc) LN.length (LN.map Value.string) (by rfl) (HTN.out.nrow.below (by repeat (first | with_reducible exact Below.refl _ _ | with_reducible refine Below.drew ?_ | with_reducible refine Below.alloc ?_ (by simp) _))) (some ⟨wr.heap.size, 0, none⟩) 1 1 [.string nm] (by rfl) (by rfl) (by simp) (fun a ha => by cases ha; exact World.news_of_block (heap_alloc_new wr _)) (by simp [Value.oneCell']) (by unfold maxLen; omega) (by omega) ?_;
          intro nv' w2 hrow hu; have HN2 := Lib.hid ((HTN.out.below (by repeat (first | with_reducible exact Below.refl _ _ | with_reducible refine Below.drew ?_ | with_reducible refine Below.alloc ?_ (by simp) _))).name (Nat.le_trans HBL.out.size (by simp)) hrow hu); have hbk2 := (HTN.out.below (by repeat (first | with_reducible exact Below.refl _ _ | with_reducible refine Below.drew ?_ | with_reducible refine Below.alloc ?_ (by simp) _))).nblk hu;
          have e3 := cell_of_row w2 _ 3 _ _ _ hbk2; simp only [List.getElem?_toArray, List.getElem?_cons_zero, List.getElem?_cons_succ] at e3; have f3 := frozen_of_row w2 _ 3 _ _ hbk2; obtain ⟨ng, nd, hv1, _⟩ := hrow.form; subst hv1; clear hrow hu hbk2)
        all_goals (
          clear p3d e3 f3 l0 l1 l2 l3 l4 hn1 p3 p4 a0 a1 a2 a3 a4
          have HN3 := Lib.hid HN2.out.1
          have HBn := Lib.hid (HBL.out.trans ((Below.drew (Below.alloc (Below.refl _ _) HBL.out.size (.cells #[.string nm] 9))).trans HN2.out.2))
          have HLNL := Lib.hid (show (a.names.drop k).reverse.length = LN.length + 1 by rw [← HLN.out]; simp)
          rw [HLN.out] at HN3
          clear HN2 HTN HBL HLN
          generalize w2.setCell ⟨w5.heap.size, 3, none⟩ (.slice ng (LN.length + 1) nd) = w3 at *
          obtain ⟨a0, a1, a2, a3, a4⟩ := (cellsOf5 (((HA5.out.trans (HBn.out.mono HA5.out.size)).block _ hx1).trans HX.out)).1
          obtain ⟨l0, l1, l2, l3, l4⟩ := lie5 (lie_below HLI0.out HBn.out)
          have p4 := cell_of_row w3 _ 4 _ _ _ HN3.out.blk
          simp only [List.getElem?_toArray, List.getElem?_cons_zero, List.getElem?_cons_succ] at p4
          have p4d := cell_below (Below.drew ((Below.refl w3.heap.size w3).alloc (Nat.le_refl _) (.cells #[.int .i64 it.kind, .int .i64 it.int, .string it.text, .slice xan it.names.length xcn, .slice xai it.items.length xci] 25))) p4
          go_wp2_with fail
          go_region_law (
            refine step_app valTy (by rfl) _ _ (by rfl) (.slice ia LI.length ic) LI.length xs (by rfl) (HN3.out.irow.below (by repeat (first | with_reducible exact Below.refl _ _ | with_reducible refine Below.drew ?_ | with_reducible refine Below.alloc ?_ (by simp) _))) (some ⟨w3.heap.size, 0, none⟩) 1 1 [.int .i64 it.kind, .int .i64 it.int, .string it.text, .slice xan it.names.length xcn, .slice xai it.items.length xci] (by rfl) (by rfl) (by simp) (fun a ha => by cases ha; exact World.news_of_block (heap_alloc_new w3 _)) (by simp [Value.oneCell']) (by unfold maxLen; omega) (by omega) ?_;
            intro iv' w4' hrow hu; have HN4 := Lib.hid ((HN3.out.below (by repeat (first | with_reducible exact Below.refl _ _ | with_reducible refine Below.drew ?_ | with_reducible refine Below.alloc ?_ (by simp) _))).item (Nat.le_trans HBn.out.size (by simp)) HRI.out (HBn.out.trans (Below.drew (Below.alloc (Below.refl _ _) HBn.out.size _))) hrow hu); have hbk4 := (HN3.out.below (by repeat (first | with_reducible exact Below.refl _ _ | with_reducible refine Below.drew ?_ | with_reducible refine Below.alloc ?_ (by simp) _))).iblk hu;
            have e4 := cell_of_row w4' _ 4 _ _ _ hbk4; simp only [List.getElem?_toArray, List.getElem?_cons_zero, List.getElem?_cons_succ] at e4; have f4 := frozen_of_row w4' _ 4 _ _ hbk4; obtain ⟨ig, id', hv4, _⟩ := hrow.form; subst hv4; clear hrow hu hbk4)
          all_goals clear e4 f4 l0 l1 l2 l3 l4 p4 p4d a0 a1 a2 a3 a4
          all_goals go_wp2
          all_goals (
            go_roundw
            case rel => exact ⟨k, (k : Int) - 1, ng, ig, nd, id', _, by omega, by go_num, rfl, Lib.hid (by have h := HN4.out.1; rw [HLNL.out, ← HLI.out, List.length_append]; exact h), Lib.hid (HBn.out.trans ((Below.drew (Below.alloc (Below.refl _ _) HBn.out.size _)).trans HN4.out.2))⟩
            case measure => first | (simp [intOf]; done) | (simp [intOf]; omega)))
end Go.Proofs.YtnmojmmgkipjcaaGreatDoor
