/- Two ends beside each other; the walk of live. Conditions: what the laws name. -/
import Derived.Test.YtkpickojeghppaaDoorClib
namespace Go.Proofs.YtkpickojeghppaaDoor
open Go.RowKit
noncomputable def lvC1 : Cl := ((cl0 true).ask ⟨#[113]⟩).1
noncomputable def lvS1 : Sv := sv0.feed lvC1.out
noncomputable def lvS2 : Sv := (lvS1.next.answer ⟨#[97]⟩).1
noncomputable def lvC2 : Cl := ({ lvC1 with out := [] } : Cl).feed lvS2.out
theorem lv_ask : (cl0 true).ask ⟨#[113]⟩ = (lvC1, 2, 0) := by kernel_rfl
theorem lv_next : lvS1.nextV = .tuple #[.int .u32 2, .string ⟨#[113]⟩, .bool true] := by kernel_rfl
theorem lv_answer : lvS1.next.answer ⟨#[97]⟩ = (lvS2, 0) := by kernel_rfl
theorem lv_reply : lvC2.reply.2 = .tuple #[.int .u32 2, .string ⟨#[97]⟩, .bool true] := by kernel_rfl
theorem lv_sum : crc [49, 50, 51, 52, 53, 54, 55, 56, 57] = 3808858755 := by kernel_rfl
def lvM : WMsg := ⟨7, 0, 3, ⟨#[120]⟩, false⟩
theorem lv_pack : packE lvM = 0 := by kernel_rfl
theorem lv_unpack : unpack (packL lvM) = .ok lvM 25 := by kernel_rfl
theorem lv_packlen : (packL lvM).length = 25 := by kernel_rfl
theorem lv_c0 : (cl0 true).out.length ≤ 1000 ∧ (cl0 true).id ≤ 1000 ∧ (cl0 true).asked.length ≤ 16 := by decide +kernel
theorem lv_c1 : lvC1.out.length ≤ 1000 ∧ lvC1.id ≤ 1000 ∧ lvC1.asked.length ≤ 16 ∧ lvC1.inp.length ≤ 1000 ∧ lvC1.came.length ≤ 1000 := by decide +kernel
theorem lv_s1 : lvS1.out.length ≤ 1000 ∧ lvS1.held.length ≤ 16 ∧ lvS1.next.out.length ≤ 1000 := by decide +kernel
theorem lv_s1ok : lvS1.next.bye < 4294967296 ∧ lvS1.next.held.length ≤ 16 ∧ (∀ x ∈ lvS1.next.held, x.1 < 4294967296) := by decide +kernel
theorem lv_s2 : lvS2.out.length ≤ 1000 := by decide +kernel
end Go.Proofs.YtkpickojeghppaaDoor
namespace Go.Proofs.YtkpickojeghppaaDoor
open Go.RowKit
structure Two (B : Nat) (w0 w : World) (C : Nat) (V : CV) (c : Cl) (R : Nat) (vi vo vh : Value) (s : Sv) : Prop where
  cx : CK.X w C V c
  sx : SvX w R vi vo vh s
  ap : ∀ g, CK.F C V c g → ¬ SvF R vi vo vh g
  cB : ∀ g, CK.F C V c g → B ≤ g
  sB : ∀ g, SvF R vi vo vh g → B ≤ g
  bl : Below B w0 w
theorem EK.F_lt {V S : Type} {K : EK V S} {w : World} {R : Nat} {v : V} {s : S} (h : K.At w R v s) : ∀ g, K.F R v s g → g < w.heap.size := fun g hg => by
  rcases hg with rfl | ⟨p, hp, hg⟩
  · exact h.ltR
  · exact h.lt p hp g hg
theorem SvF_lt {w : World} {R : Nat} {vi vo vh : Value} {s : Sv} (h : SvAt w R vi vo vh s) : ∀ g, SvF R vi vo vh g → g < w.heap.size := fun g hg => by
  rcases hg with rfl | hg | hg | hg
  · exact h.lt
  · exact h.lti g hg
  · exact Slab.lt h.sout hg
  · exact Slab.lt h.sheld hg
section
variable {B : Nat} {w0 w : World} {C R : Nat} {V : CV} {c : Cl} {vi vo vh : Value} {s : Sv}
theorem Two.size (h : Two B w0 w C V c R vi vo vh s) : B ≤ w.heap.size := Nat.le_trans (h.cB C (.inl rfl)) (Nat.le_of_lt (EK.F_lt h.cx.at_ C (.inl rfl)))
theorem Two.below (h : Two B w0 w C V c R vi vo vh s) {w' : World} (hb : Below w.heap.size w w') : Two B w0 w' C V c R vi vo vh s :=
  ⟨h.cx.below hb, h.sx.below hb, h.ap, h.cB, h.sB, h.bl.trans (hb.mono h.size)⟩
/-- the client has made a step -/
theorem Two.cl (h : Two B w0 w C V c R vi vo vh s) (hB : B ≤ w.heap.size) {V' : CV} {c' : Cl} {w' : World} (ha : CK.At w' C V' c') (ht : Turn (CK.F C V c) w w') (hn : ∀ g, CK.F C V' c' g → CK.F C V c g ∨ w.heap.size ≤ g) : Two B w0 w' C V' c' R vi vo vh s := by
  have hs := SvF_lt h.sx.sv
  refine ⟨h.cx.of ha ht hn, ?_, fun g hg hg2 => ?_, fun g hg => (hn g hg).elim (h.cB g) (fun e => Nat.le_trans hB e), h.sB, h.bl.trans (ht.below h.cB hB)⟩
  · have h1 := h.sx.sv.turn ht (fun g hg hg2 => h.ap g hg2 hg)
    exact ⟨h1, h.sx.tabs.turn ht h.cx.own, h.sx.own⟩
  · rcases hn g hg with e | e
    · exact h.ap g e hg2
    · have := hs g hg2; omega
/-- the server has made a step -/
theorem Two.sv (h : Two B w0 w C V c R vi vo vh s) (hB : B ≤ w.heap.size) {vi' vo' vh' : Value} {s' : Sv} {w' : World} (ha : SvAt w' R vi' vo' vh' s') (ht : Turn (SvF R vi vo vh) w w') (hn : ∀ g, SvF R vi' vo' vh' g → SvF R vi vo vh g ∨ w.heap.size ≤ g) : Two B w0 w' C V c R vi' vo' vh' s' := by
  have hc := EK.F_lt h.cx.at_
  refine ⟨?_, h.sx.of ha ht hn, fun g hg hg2 => ?_, h.cB, fun g hg => (hn g hg).elim (h.sB g) (fun e => Nat.le_trans hB e), h.bl.trans (ht.below h.sB hB)⟩
  · have h1 : CK.At w' C V c := StAt.turn h.cx.at_ ht (fun g hg hg2 => h.ap g hg hg2)
    exact ⟨h1, h.cx.tabs.turn ht h.sx.own, h.cx.own⟩
  · rcases hn g hg2 with e | e
    · exact h.ap g hg e
    · have := hc g hg; omega
/-- what went out has been taken -/
theorem Two.clOut (h : Two B w0 w C V c R vi vo vh s) {w' : World} (ha : CK.At w' C { V with o := .slice none 0 0 } { c with out := [] }) (ht : Turn (fun g => g = C) w w') : Two B w0 w' C { V with o := .slice none 0 0 } { c with out := [] } R vi vo vh s :=
  h.cl h.size ha (ht.weak (fun _ e => .inl e)) (fun g hg => by
    rcases hg with e | ⟨p, hp, e⟩
    · exact .inl (.inl e)
    · simp only [CK, clParts, List.mem_cons, List.not_mem_nil, or_false] at hp
      rcases hp with rfl | rfl | rfl | rfl
      · exact .inl (.inr ⟨_, .head _, e⟩)
      · cases e
      · exact .inl (.inr ⟨_, .tail _ (.tail _ (.head _)), e⟩)
      · exact .inl (.inr ⟨_, .tail _ (.tail _ (.tail _ (.head _))), e⟩))
theorem Two.svOut (h : Two B w0 w C V c R vi vo vh s) {w' : World} (ha : SvAt w' R vi (.slice none 0 0) vh { s with out := [] }) (ht : Turn (fun g => g = R) w w') : Two B w0 w' C V c R vi (.slice none 0 0) vh { s with out := [] } :=
  h.sv h.size ha (ht.weak (fun _ e => .inl e)) (fun g hg => by
    rcases hg with e | e | e | e
    · exact .inl (.inl e)
    · exact .inl (.inr (.inl e))
    · cases e
    · exact .inl (.inr (.inr (.inr e))))
end
theorem two_start {w W3 w4 w5 : World} {V0 : CV} {sums : Bool} (hT : WTabs w) (hb3 : Below w.heap.size w W3) (hc : CK.At w4 W3.heap.size V0 (cl0 sums)) (hb4 : Below W3.heap.size W3 w4) (hF : ∀ g, CK.F W3.heap.size V0 (cl0 sums) g → W3.heap.size ≤ g)
    (hs : SvAt w5 w4.heap.size (.slice none 0 0) (.slice none 0 0) (.slice none 0 0) sv0) (hb5 : Below w4.heap.size w4 w5) : Two w.heap.size w w5 W3.heap.size V0 (cl0 sums) w4.heap.size (.slice none 0 0) (.slice none 0 0) (.slice none 0 0) sv0 := by
  have h3 := hb3.size
  have h4 := hb4.size
  have h5 := hT.size
  have hcl := EK.F_lt hc
  have T5 := ((hT.below hb3).below hb4).below hb5
  have hsF : ∀ g, SvF w4.heap.size (.slice none 0 0) (.slice none 0 0) (.slice none 0 0) g → g = w4.heap.size := fun g hg => by
    rcases hg with e | e | e | e
    · exact e
    · cases e
    · cases e
    · cases e
  refine ⟨⟨StAt.below hc hb5, T5, fun g hg => ?_⟩, ⟨hs, T5, fun g hg => ?_⟩, fun g hg hg2 => ?_, fun g hg => ?_, fun g hg => ?_, ?_⟩
  · have := hF g hg; omega
  · have := hsF g hg; omega
  · have := hsF g hg2
    have := hcl g hg
    omega
  · have := hF g hg; omega
  · have := hsF g hg; omega
  · exact hb3.trans ((hb4.mono h3).trans (hb5.mono (by omega)))
end Go.Proofs.YtkpickojeghppaaDoor
namespace Go.Proofs.YtkpickojeghppaaDoor
open Go.RowKit
theorem num_c (n : Int) (w : World) : Calls Tryd.prog 11 #[.int .i64 n] w fun e w' => e = .returned (.int .i64 n) ∧ w = w' := by
  go_enter Tryd.func11, Tryd.ntmps11
  go_wp2
  go_ret
  exact ⟨rfl, rfl⟩
theorem conv_nine (w : World) (g : Nat) (hg : w.heap.size = g) : (convert 28 28 (.slice (some ⟨g, 0, none⟩) 9 9)).run Tryd.prog (w.alloc (.cells #[.int .u8 49, .int .u8 50, .int .u8 51, .int .u8 52, .int .u8 53, .int .u8 54, .int .u8 55, .int .u8 56, .int .u8 57] 5)) = .ok (.slice (some ⟨g, 0, none⟩) 9 9) (w.alloc (.cells #[.int .u8 49, .int .u8 50, .int .u8 51, .int .u8 52, .int .u8 53, .int .u8 54, .int .u8 55, .int .u8 56, .int .u8 57] 5 (9, 10))) := by
  subst hg
  exact Lib.run_convert_bytes_const (P := Tryd.prog) w 28 5 _ 9 9 Tryd.underlying28 Tryd.underlying5
set_option maxRecDepth 20000 in
set_option maxHeartbeats 8000000 in
theorem live_c (w : World) (hT : WTabs w) : Calls Tryd.prog 12 #[] w fun e w' => e = .returned (.bool true) ∧ Below w.heap.size w w' := by
  have HT := Lib.hid hT
  have HP := Lib.hid (show Calls Tryd.prog 13 #[.agg #[.int .u32 7, .int .u32 0, .int .i64 3, .string ⟨#[120]⟩, .bool false]] w (PackPost lvM w) from pack_c lvM ⟨by decide, by decide, by decide, by decide, by decide⟩ w)
  clear hT
  go_enter Tryd.func12, Tryd.ntmps12
  go_wp2_with fail
  refine HP.out.mono ?_; rintro e w1 ⟨v1, rfl, hs1, hb1, hn1⟩
  rw [lv_pack]
  obtain ⟨A1, cap1, rfl, hc1, _, hB1⟩ := hs1.bytes
  have HU := Lib.hid (unpack_c A1 cap1 (packL lvM) (by rw [lv_packlen]; decide) hc1 w1 hB1)
  rw [lv_unpack, lv_packlen] at HU
  have HU' := Lib.hid (show Calls Tryd.prog 15 #[.slice A1 25 cap1] w1 (fun e w' => e = .returned (.tuple #[.agg #[.int .u32 7, .int .u32 0, .int .i64 3, .string ⟨#[120]⟩, .bool false], .int .i64 25, .int .i64 0]) ∧ Below w1.heap.size w1 w') from HU.out)
  have HB1 := Lib.hid hb1
  rw [lv_packlen]
  clear HP HU hs1 hb1 hn1 hc1 hB1
  go_wp2_with fail
  refine HU'.out.mono ?_; rintro e w2 ⟨rfl, hb2⟩
  have HB2 := Lib.hid (HB1.out.trans (hb2.mono HB1.out.size))
  clear hb2 HU' HB1
  go_wp2_with fail
  have hx3 : (w2.alloc (.cells #[.int .u32 7, .int .u32 0, .int .i64 3, .string ⟨#[120]⟩, .bool false] 27)).cell? ⟨w2.heap.size, 3, none⟩ = some (.string ⟨#[120]⟩) := cell_of_row _ _ 3 _ _ _ (heap_alloc_new w2 _)
  have HB3 := Lib.hid (show Below w.heap.size w (w2.alloc (.cells #[.int .u32 7, .int .u32 0, .int .i64 3, .string ⟨#[120]⟩, .bool false] 27)) from HB2.out.alloc HB2.out.size _)
  clear HB2
  generalize w2.alloc (.cells #[.int .u32 7, .int .u32 0, .int .i64 3, .string ⟨#[120]⟩, .bool false] 27) = W3 at *
  generalize w2.heap.size = X at *
  have HX := Lib.hid hx3
  clear hx3
  refine (newClient_c true W3).mono ?_; rintro e w4 ⟨V0, rfl, hc, hb4, hF⟩
  have HC := Lib.hid (And.intro hc (And.intro hb4 hF))
  clear hc hb4 hF
  go_wp2_with fail
  refine (newServer_c w4).mono ?_; rintro e w5 ⟨rfl, hs, hb5⟩
  have HW := Lib.hid (two_start (HT.out.below HB3.out) (Below.refl _ _) HC.out.1 HC.out.2.1 HC.out.2.2 hs hb5)
  clear hs hb5 HC
  generalize hC : W3.heap.size = C at *
  generalize w4.heap.size = R at *
  have HCE := Lib.hid hC
  clear hC
  go_wp2_with fail
  have ha := ask_c C V0 (cl0 true) ⟨Nat.le_trans lv_c0.2.1 (by decide), lv_c0.2.2⟩ ⟨#[113]⟩ (by decide) (Nat.le_trans lv_c0.1 (by decide)) w5 HW.out.cx.at_
  rw [lv_ask] at ha
  have ha' : Calls Tryd.prog 38 #[.pointer (some ⟨C, 0, none⟩), .string ⟨#[113]⟩] w5 (CK.Post C V0 (cl0 true) w5 lvC1 (.tuple #[.int .u32 2, .int .i64 0])) := ha
  clear ha
  refine ha'.mono ?_; rintro e w6 ⟨V1, rfl, h6, ht6, hn6⟩
  have HW6 := Lib.hid (HW.out.cl HW.out.size h6 ht6 hn6)
  clear ha' HW h6 ht6 hn6
  go_wp2_with fail
  refine (clOut_c C V1 lvC1 w6 HW6.out.cx.at_).mono ?_; rintro e w7 ⟨rfl, h7, hs7, ht7⟩
  have HW7 := Lib.hid (HW6.out.clOut h7 ht7)
  have HS7 := Lib.hid hs7
  clear HW6 h7 hs7 ht7
  go_wp2_with fail
  have ha := svFeed_c R _ _ _ sv0 ⟨by decide, by decide, by simp [sv0]⟩ V1.o lvC1.out w7 (src_bslab HS7.out) (by have := lv_c1.1; simp [sv0]; omega) HW7.out.sx
  have ha' : Calls Tryd.prog 24 #[.pointer (some ⟨R, 0, none⟩), V1.o] w7 (SvPost R (.slice none 0 0) (.slice none 0 0) (.slice none 0 0) w7 lvS1 (.tuple #[])) := ha
  clear ha
  refine ha'.mono ?_; rintro e w8 ⟨vi8, vo8, vh8, rfl, h8, ht8, hn8⟩
  have HW8 := Lib.hid (HW7.out.sv HW7.out.size h8 ht8 hn8)
  clear ha' HW7 HS7 h8 ht8 hn8
  go_wp2_with fail
  have ha := next_c R vi8 vo8 vh8 lvS1 (Nat.le_trans lv_s1.2.1 (by decide)) w8 HW8.out.sx.sv
  rw [lv_next] at ha
  refine ha.mono ?_; rintro e w9 ⟨vi9, vo9, vh9, rfl, h9, ht9, hn9⟩
  have HW9 := Lib.hid (HW8.out.sv HW8.out.size h9 ht9 hn9)
  clear ha HW8 h9 ht9 hn9
  go_wp2_with fail
  have ha := answer_c R vi9 vo9 vh9 lvS1.next ⟨lv_s1ok.1, lv_s1ok.2.1, lv_s1ok.2.2⟩ ⟨#[97]⟩ (by decide) (Nat.le_trans lv_s1.2.2 (by decide)) w9 HW9.out.sx
  rw [lv_answer] at ha
  have ha' : Calls Tryd.prog 28 #[.pointer (some ⟨R, 0, none⟩), .string ⟨#[97]⟩] w9 (SvPost R vi9 vo9 vh9 w9 lvS2 (.int .i64 0)) := ha
  clear ha
  refine ha'.mono ?_; rintro e w10 ⟨vi10, vo10, vh10, rfl, h10, ht10, hn10⟩
  have HW10 := Lib.hid (HW9.out.sv HW9.out.size h10 ht10 hn10)
  clear ha' HW9 h10 ht10 hn10
  go_wp2_with fail
  refine (svOut_c R vi10 vo10 vh10 lvS2 w10 HW10.out.sx.sv).mono ?_; rintro e w11 ⟨rfl, h11, hs11, ht11⟩
  have HW11 := Lib.hid (HW10.out.svOut h11 ht11)
  have HS11 := Lib.hid hs11
  clear HW10 h11 hs11 ht11
  obtain ⟨A11, cap11, rfl, _, _, hB11⟩ := HS11.out.bytes
  have HB11 := Lib.hid hB11
  clear hB11 HS11
  go_wp2_with fail
  have ha := clFeed_c C _ { lvC1 with out := [] } ⟨Nat.le_trans lv_c1.2.1 (by decide), lv_c1.2.2.1⟩ A11 cap11 lvS2.out w11 HB11.out (by have h1 := lv_c1.2.2.2; have h2 := lv_s2; show lvC1.came.length + (lvC1.inp.length + lvS2.out.length) ≤ _; omega) HW11.out.cx
  have ha' : Calls Tryd.prog 36 #[.pointer (some ⟨C, 0, none⟩), .slice A11 lvS2.out.length cap11] w11 (CK.Post C { V1 with o := .slice none 0 0 } { lvC1 with out := [] } w11 lvC2 (.tuple #[])) := ha
  clear ha
  refine ha'.mono ?_; rintro e w12 ⟨V12, rfl, h12, ht12, hn12⟩
  have HW12 := Lib.hid (HW11.out.cl HW11.out.size h12 ht12 hn12)
  clear ha' HW11 HB11 h12 ht12 hn12
  go_wp2_with fail
  have ha := reply_c C V12 lvC2 w12 HW12.out.cx.at_
  rw [lv_reply] at ha
  refine ha.mono ?_; rintro e w13 ⟨V13, rfl, h13, ht13, hn13⟩
  have HW13 := Lib.hid (HW12.out.cl HW12.out.size h13 ht13 hn13)
  clear ha HW12 h13 ht13 hn13
  have hx := cell_below (show Below W3.heap.size W3 w13 by rw [HCE.out]; exact HW13.out.bl) HX.out
  have HB13 := Lib.hid (HB3.out.trans ((show Below W3.heap.size W3 w13 by rw [HCE.out]; exact HW13.out.bl).mono HB3.out.size))
  clear HW13 HX HCE HB3
  have kcs := conv_nine w13 w13.heap.size rfl
  have hsum : Calls Tryd.prog 18 #[.slice (some ⟨w13.heap.size, 0, none⟩) 9 9] (w13.alloc (.cells #[.int .u8 49, .int .u8 50, .int .u8 51, .int .u8 52, .int .u8 53, .int .u8 54, .int .u8 55, .int .u8 56, .int .u8 57] 5 (9, 10))) fun e w' => e = .returned (.int .u32 3808858755) ∧ w' = (w13.alloc (.cells #[.int .u8 49, .int .u8 50, .int .u8 51, .int .u8 52, .int .u8 53, .int .u8 54, .int .u8 55, .int .u8 56, .int .u8 57] 5 (9, 10))) := by
    have h := sum_c (some ⟨w13.heap.size, 0, none⟩) 9 [49, 50, 51, 52, 53, 54, 55, 56, 57] (by decide) (w13.alloc (.cells #[.int .u8 49, .int .u8 50, .int .u8 51, .int .u8 52, .int .u8 53, .int .u8 54, .int .u8 55, .int .u8 56, .int .u8 57] 5 (9, 10))) (.inr ⟨_, 0, rfl, rangeAt_of_block2 (heap_alloc_new w13 _) (ys := []) (by simp [bytesV])⟩)
    rw [lv_sum] at h
    exact h
  have HSUM := Lib.hid hsum
  clear hsum
  go_wp2_with (first
    | (go_at_call 11; refine (num_c _ _).mono ?_; rintro e w' ⟨rfl, rfl⟩)
    | (go_at_call 18; refine HSUM.out.mono ?_; rintro e w' ⟨rfl, rfl⟩))
  go_ret
  exact ⟨rfl, HB13.out.alloc HB13.out.size _⟩
end Go.Proofs.YtkpickojeghppaaDoor
