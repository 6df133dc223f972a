/- The walk of later (the client's): a fault; and all of it. Conditions: a text of at most 2 to the 47 bytes. -/
import Derived.Test.YtkpickojeghppaaDoorWcll
import Derived.Lib.QuietBelow
namespace Go.Proofs.YtkpickojeghppaaDoor
open Go.RowKit
theorem digitsB_list (n : Nat) : (digitsB n).toList = Lib.itoa (n : Int) := by rw [ByteArray.toList_eq]; rfl
theorem atoi_w (body : ByteArray) (hs : body.size ≤ 281474976710656) (w : World) (hT : WTabs w) : Calls Tryd.prog 80 #[.string body] w fun e w' => Below w.heap.size w w' ∧
    match Lib.atoiAll body.data.toList with
    | .ok v => e = .returned (.tuple #[.int .i64 v, .nilIface])
    | _ => ∃ v N, e = .returned (.tuple #[.int .i64 v, .iface 145 (.pointer (some ⟨N, 0, none⟩))]) := by
  rcases h : Lib.atoiAll body.data.toList with v | _ | _
  · refine (Tryd.strconv_Atoi_ok body (by omega) v h w).mono ?_
    rintro e w' ⟨he, hw⟩
    refine ⟨?_, he⟩
    rcases hw with rfl | ⟨t, rfl⟩
    · exact Below.refl _ _
    · exact Lib.bytesWorld_below _ _ _
  · obtain ⟨t, p, hv⟩ := hT.syn
    refine (Tryd.strconv_Atoi_no_var body hs (by rw [h]; trivial) t p w hv).mono ?_
    rintro e w' ⟨N, he, _, _, hb⟩
    exact ⟨hb, _, N, he⟩
  · obtain ⟨t, p, hv⟩ := hT.rng
    refine (Tryd.strconv_Atoi_range_var body hs h t p w hv).mono ?_
    rintro e w' ⟨N, he, _, _, hb⟩
    exact ⟨hb, _, N, he⟩
set_option maxRecDepth 20000 in
set_option maxHeartbeats 4000000 in
theorem clLater6_c (R : Nat) (V : CV) (s : Cl) (hb : s.began = true) (id to : Nat) (body : ByteArray) (hs : body.size ≤ 281474976710656) (sm : Bool) (w : World) (h : CK.X w R V s) :
    Calls Tryd.prog 76 #[.pointer (some ⟨R, 0, none⟩), .agg #[.int .u32 (id : Int), .int .u32 (to : Int), .int .i64 6, .string body, .bool sm]] w (CK.Post R V s w (s.take ⟨id, to, 6, body, sm⟩).1 (.int .i64 ((s.take ⟨id, to, 6, body, sm⟩).2 : Int))) := by
  have ht6 : s.take ⟨id, to, 6, body, sm⟩ = (s, match Lib.atoiAll body.data.toList with
    | .ok n => if 1 ≤ n ∧ n ≤ 999 ∧ Lib.itoa n = body.data.toList then n.toNat else 284
    | _ => 284) := by unfold Cl.take; rw [if_neg (by rw [hb]; decide), if_neg (by simp), if_neg (by simp), if_pos rfl]; rfl
  have hb0 : Below w.heap.size w (w.alloc (.cells #[.int .u32 (id : Int), .int .u32 (to : Int), .int .i64 6, .string body, .bool sm] 27)) := (Below.refl _ _).alloc (Nat.le_refl _) _
  have HB0 := Lib.hid hb0
  have HA := Lib.hid (atoi_w body hs _ (h.tabs.below hb0))
  have HI := Lib.hid (fun (n : Nat) (hn : n ≤ 999) (w2 : World) (hb : Below w.heap.size w w2) => itoa_w n (by omega) w2 (h.tabs.below hb))
  have hx : (w.alloc (.cells #[.int .u32 (id : Int), .int .u32 (to : Int), .int .i64 6, .string body, .bool sm] 27)).cell? ⟨w.heap.size, 3, none⟩ = some (.string body) := cell_of_row _ _ 3 _ _ _ (heap_alloc_new w _)
  have hz : w.heap.size < (w.alloc (.cells #[.int .u32 (id : Int), .int .u32 (to : Int), .int .i64 6, .string body, .bool sm] 27)).heap.size := by simp
  have HX := Lib.hid hx
  have H := Lib.hid h.at_
  rw [ht6]
  clear h hb hb0 ht6 hx
  suffices key : ∀ rv : Nat, Hid ((match Lib.atoiAll body.data.toList with
    | .ok n => if 1 ≤ n ∧ n ≤ 999 ∧ Lib.itoa n = body.data.toList then n.toNat else 284
    | _ => 284) = rv) → Calls Tryd.prog 76 #[.pointer (some ⟨R, 0, none⟩), .agg #[.int .u32 (id : Int), .int .u32 (to : Int), .int .i64 6, .string body, .bool sm]] w (CK.Post R V s w s (.int .i64 (rv : Int))) from key _ (Lib.hid rfl)
  intro rv HRV
  rcases ha : Lib.atoiAll body.data.toList with v | _ | _
  · rw [ha] at HA
    by_cases h1 : 1 ≤ v ∧ v ≤ 999
    · obtain ⟨h1, h2⟩ := h1
      obtain ⟨n, rfl⟩ := Int.eq_ofNat_of_zero_le (show 0 ≤ v by omega)
      have HN := Lib.hid (show n ≤ 999 by omega)
      by_cases heq : Lib.itoa (n : Int) = body.data.toList
      · have HT := Lib.hid (show rv = n by rw [← HRV.out, ha]; exact (if_pos ⟨h1, h2, heq⟩).trans rfl)
        have hcmp : ((digitsB n).toList == body.toList) = true := by rw [beq_iff_eq, digitsB_list, heq, ByteArray.toList_eq]
        clear ha heq
        go_enter Tryd.func76, Tryd.ntmps76
        go_wp2_with fail
        refine HA.out.mono ?_; rintro e w1 ⟨hb1, rfl⟩
        have HB1 := Lib.hid (HB0.out.trans (hb1.mono (by simp)))
        have x3 := cell_below hb1 HX.out
        clear hb1
        have k3 := cell_regrown x3
        go_wp2
        refine wp_region_quiet_below (by kernel_rfl) (by kernel_rfl) ?_
        repeat (go_big_quiet_step ((go_at_call 74; exact Calls.regrown_of (HI.out n HN.out _ (HB1.out.trans ((below_regrown w1 _ _).mono HB1.out.size))))))
        refine wpQuiet_nil ?_
        intro _ hw'
        obtain ⟨⟨dq, osq⟩, hw''⟩ := hw'
        subst hw''
        go_wp2
        go_ret
        rw [HT.out]
        exact EK.post_below H.out (HB1.out.trans ((below_regrown w1 _ _).mono HB1.out.size)) _
      · have HT := Lib.hid (show rv = 284 by rw [← HRV.out, ha]; exact if_neg (fun h => heq h.2.2))
        have hcmp : ((digitsB n).toList == body.toList) = false := by rw [beq_eq_false_iff_ne, digitsB_list, ByteArray.toList_eq]; exact heq
        clear ha heq
        go_enter Tryd.func76, Tryd.ntmps76
        go_wp2_with fail
        refine HA.out.mono ?_; rintro e w1 ⟨hb1, rfl⟩
        have HB1 := Lib.hid (HB0.out.trans (hb1.mono (by simp)))
        have x3 := cell_below hb1 HX.out
        clear hb1
        have k3 := cell_regrown x3
        go_wp2
        refine wp_region_quiet_below (by kernel_rfl) (by kernel_rfl) ?_
        repeat (go_big_quiet_step ((go_at_call 74; exact Calls.regrown_of (HI.out n HN.out _ (HB1.out.trans ((below_regrown w1 _ _).mono HB1.out.size))))))
        refine wpQuiet_nil ?_
        intro _ hw'
        obtain ⟨⟨dq, osq⟩, hw''⟩ := hw'
        subst hw''
        go_wp2
        go_ret
        rw [HT.out]
        exact EK.post_below H.out (HB1.out.trans ((below_regrown w1 _ _).mono HB1.out.size)) _
    · have HT := Lib.hid (show rv = 284 by rw [← HRV.out, ha]; exact if_neg (fun h => h1 ⟨h.1, h.2.1⟩))
      by_cases h2 : 1 ≤ v
      · have hd2 : decide (v ≤ 999) = false := decide_eq_false (by omega)
        clear ha h1
        go_enter Tryd.func76, Tryd.ntmps76
        go_wp2_with fail
        refine HA.out.mono ?_; rintro e w1 ⟨hb1, rfl⟩
        have HB1 := Lib.hid (HB0.out.trans (hb1.mono (by simp)))
        clear hb1
        go_wp2
        go_big_quiet (fail)
        go_wp2
        go_ret
        rw [HT.out]
        exact EK.post_below H.out (below_drewN HB1.out _) _
      · have hd1 : decide (1 ≤ v) = false := decide_eq_false h2
        clear ha h1 h2
        go_enter Tryd.func76, Tryd.ntmps76
        go_wp2_with fail
        refine HA.out.mono ?_; rintro e w1 ⟨hb1, rfl⟩
        have HB1 := Lib.hid (HB0.out.trans (hb1.mono (by simp)))
        clear hb1
        go_wp2
        go_big_quiet (fail)
        go_wp2
        go_ret
        rw [HT.out]
        exact EK.post_below H.out (below_drewN HB1.out _) _
  · rw [ha] at HA
    have HT := Lib.hid (show rv = 284 by rw [← HRV.out, ha])
    clear ha
    go_enter Tryd.func76, Tryd.ntmps76
    go_wp2_with fail
    refine HA.out.mono ?_; rintro e w1 ⟨hb1, v, N, rfl⟩
    have HB1 := Lib.hid (HB0.out.trans (hb1.mono (by simp)))
    clear hb1
    go_wp2
    go_big_quiet (fail)
    go_wp2
    go_ret
    rw [HT.out]
    exact EK.post_below H.out (below_drewN HB1.out _) _
  · rw [ha] at HA
    have HT := Lib.hid (show rv = 284 by rw [← HRV.out, ha])
    clear ha
    go_enter Tryd.func76, Tryd.ntmps76
    go_wp2_with fail
    refine HA.out.mono ?_; rintro e w1 ⟨hb1, v, N, rfl⟩
    have HB1 := Lib.hid (HB0.out.trans (hb1.mono (by simp)))
    clear hb1
    go_wp2
    go_big_quiet (fail)
    go_wp2
    go_ret
    rw [HT.out]
    exact EK.post_below H.out (below_drewN HB1.out _) _
theorem clLater_c (R : Nat) (V : CV) (s : Cl) (hb : s.began = true) (hok : s.Ok) (hcl : s.came.length ≤ 1099511627776) (m : WMsg) (hs : m.body.size ≤ 281474976710656) (w : World) (h : CK.X w R V s) :
    Calls Tryd.prog 76 #[.pointer (some ⟨R, 0, none⟩), .agg (msgV m).toArray] w (CK.Post R V s w (s.take m).1 (.int .i64 ((s.take m).2 : Int))) := by
  obtain ⟨id, to, kind, body, sm⟩ := m
  by_cases h4 : kind = 4
  · subst h4; exact clLater4_c R V s hb id to body sm (by have := hok.asked; omega) hcl w h.at_
  · by_cases h5 : kind = 5
    · subst h5; exact clLater5_c R V s hb id to body sm w h.at_
    · by_cases h6 : kind = 6
      · subst h6; exact clLater6_c R V s hb id to body hs sm w h
      · exact clLater0_c R V s hb id to kind body sm h4 h5 h6 w h.at_
end Go.Proofs.YtkpickojeghppaaDoor
