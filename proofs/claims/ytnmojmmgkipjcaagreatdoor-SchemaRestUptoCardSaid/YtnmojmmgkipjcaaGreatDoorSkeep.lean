/- The walk of the law's keeps. Conditions: what strconv.Itoa answers is a text (ItoC); the tables of package utf8 lie as their texts lay them. -/
import Derived.Test.YtnmojmmgkipjcaaGreatDoorLawa
namespace Go.Proofs.YtnmojmmgkipjcaaGreatDoor
open Go.RowKit
def isOk : RS → Bool
  | .ok _ => true
  | .bad _ => false
/-- is a value a schema? -/
def goodB (s : JV) : Bool := decide (chk s 0 = 0) && isOk (readS s 0 0)
theorem goodB_ok {s : JV} (h : goodB s = true) : chk s 0 = 0 ∧ ∃ m, readS s 0 0 = .ok m := by
  unfold goodB at h
  simp only [Bool.and_eq_true, decide_eq_true_eq] at h
  cases hr : readS s 0 0 with
  | ok m => exact ⟨h.1, m, rfl⟩
  | bad e => rw [hr] at h; exact absurd h.2 (by simp [isOk])
theorem good_of {s : JV} (h : goodB s = true) : Good s := by
  obtain ⟨h0, m, h1⟩ := goodB_ok h
  exact ⟨okU_chk s 0 h0, 0, 0, m, h1⟩
def keepsR (s v : JV) : Bool := goodB s && (faultS s v).isNone
set_option maxRecDepth 20000 in
set_option maxHeartbeats 8000000 in
theorem keeps_c (N : Nat) (s v : JV) (hsb : s.bulk ≤ 1099511627776) (hvN : v.size ≤ N) (hvb : v.bulk ≤ 1099511627776) (cs vs : List Value) (w : World) (okS okV : Nat → Prop) (hr : Rep w okS s cs) (hv : Rep w okV v vs) (hT : Lib.Utf8Tabs 0 1 w) (hi : ItoC N w) :
    Calls Tryz.prog 9 #[.agg cs.toArray, .agg vs.toArray] w fun e w' => e = .returned (.tuple #[.bool (keepsR s v), .bool (goodB s)]) ∧ Below w.heap.size w w' := by
  have hr0 := hr
  have hv0 := hv
  obtain ⟨an, cn, ai, ci, rfl⟩ := hr.form
  obtain ⟨bn, dn, bi, di, rfl⟩ := hv.form
  have hb : Below w.heap.size w ((w.alloc (.cells #[.int .i64 s.kind, .int .i64 s.int, .string s.text, .slice an s.names.length cn, .slice ai s.items.length ci] 25)).alloc (.cells #[.int .i64 v.kind, .int .i64 v.int, .string v.text, .slice bn v.names.length dn, .slice bi v.items.length di] 25)) := (by repeat (first | with_reducible exact Below.refl _ _ | with_reducible refine below_drewN ?_ _ | with_reducible refine Below.drew ?_ | with_reducible refine below_set5 ?_ (by first | (simp; done) | (simp; omega)) | with_reducible refine Below.alloc ?_ (by first | (simp; done) | (simp; omega)) _ | with_reducible refine Below.setCell ?_ (by first | (simp; done) | (simp; omega)) _))
  have hX := heap_alloc_new (w.alloc (.cells #[.int .i64 s.kind, .int .i64 s.int, .string s.text, .slice an s.names.length cn, .slice ai s.items.length ci] 25)) (.cells #[.int .i64 v.kind, .int .i64 v.int, .string v.text, .slice bn v.names.length dn, .slice bi v.items.length di] 25)
  have hX1 : w.heap.size + 1 < ((w.alloc (.cells #[.int .i64 s.kind, .int .i64 s.int, .string s.text, .slice an s.names.length cn, .slice ai s.items.length ci] 25)).alloc (.cells #[.int .i64 v.kind, .int .i64 v.int, .string v.text, .slice bn v.names.length dn, .slice bi v.items.length di] 25)).heap.size := by simp
  rw [World.size_alloc] at hX
  have HB := Lib.hid hb
  have HX := Lib.hid hX
  have HR := Lib.hid (hr0.below hb)
  have HV := Lib.hid (hv0.below hb)
  have HT := Lib.hid (tabs_below hT hb)
  have HI := Lib.hid (hi.below hb)
  have HN := Lib.hid (And.intro hsb (And.intro hvN hvb))
  clear hr hr0 hv hv0 hb hX hT hi hsb hvN hvb
  have hPA : (goodB s = false ∧ ∃ z : Int, z ≠ 0 ∧ Calls Tryz.prog 13 #[.agg #[.int .i64 s.kind, .int .i64 s.int, .string s.text, .slice an s.names.length cn, .slice ai s.items.length ci]] ((w.alloc (.cells #[.int .i64 s.kind, .int .i64 s.int, .string s.text, .slice an s.names.length cn, .slice ai s.items.length ci] 25)).alloc (.cells #[.int .i64 v.kind, .int .i64 v.int, .string v.text, .slice bn v.names.length dn, .slice bi v.items.length di] 25)) (PaBad ((w.alloc (.cells #[.int .i64 s.kind, .int .i64 s.int, .string s.text, .slice an s.names.length cn, .slice ai s.items.length ci] 25)).alloc (.cells #[.int .i64 v.kind, .int .i64 v.int, .string v.text, .slice bn v.names.length dn, .slice bi v.items.length di] 25)) z)) ∨ (goodB s = true ∧ ∃ m, Calls Tryz.prog 13 #[.agg #[.int .i64 s.kind, .int .i64 s.int, .string s.text, .slice an s.names.length cn, .slice ai s.items.length ci]] ((w.alloc (.cells #[.int .i64 s.kind, .int .i64 s.int, .string s.text, .slice an s.names.length cn, .slice ai s.items.length ci] 25)).alloc (.cells #[.int .i64 v.kind, .int .i64 v.int, .string v.text, .slice bn v.names.length dn, .slice bi v.items.length di] 25)) (PaOk ((w.alloc (.cells #[.int .i64 s.kind, .int .i64 s.int, .string s.text, .slice an s.names.length cn, .slice ai s.items.length ci] 25)).alloc (.cells #[.int .i64 v.kind, .int .i64 v.int, .string v.text, .slice bn v.names.length dn, .slice bi v.items.length di] 25)) okS s m)) := by
    by_cases h0 : chk s 0 = 0
    · cases hrs : readS s 0 0 with
      | bad E =>
        refine .inl ⟨by unfold goodB; rw [hrs]; simp [isOk], E, ?_, parse_bad s HN.out.1 _ _ _ HR.out HT.out h0 E hrs⟩
        rcases readS_bad s 0 0 E hrs with h | h <;> rw [h] <;> decide
      | ok m => exact .inr ⟨by unfold goodB; rw [hrs, decide_eq_true h0]; rfl, m, parse_ok s HN.out.1 _ _ _ HR.out HT.out h0 m hrs⟩
    · exact .inl ⟨by unfold goodB; rw [decide_eq_false h0]; rfl, chk s 0, h0, parse_chk s HN.out.1 _ _ _ HR.out HT.out h0⟩
  rcases hPA with ⟨hg, z, hz, hp⟩ | ⟨hg, m, hp⟩
  · have HP := Lib.hid hp
    have HG := Lib.hid hg
    have hzb : (z != 0) = true := by simp [hz]
    clear hg hp
    go_enter Tryz.func9, Tryz.ntmps9
    go_wp2_with fail
    refine HP.out.mono ?_; rintro e w1 ⟨rfl, hb1⟩
    have HB1 := Lib.hid (HB.out.trans (hb1.mono HB.out.size))
    clear hb1
    go_wp2_with (go_at_call 14; refine (num_c z _).mono ?_; rintro e w' ⟨rfl, rfl⟩)
    refine bodyPost_ret (results_tmp2 rfl _ _ _) rfl ?_
    exact ⟨by rw [keepsR, HG.out]; rfl, HB1.out⟩
  · have HP := Lib.hid hp
    have HG := Lib.hid hg
    clear hg hp
    go_enter Tryz.func9, Tryz.ntmps9
    go_wp2_with fail
    refine HP.out.mono ?_; rintro e w1 ⟨p, rfl, HSC, -, HB1⟩
    have HA1 := Lib.hid (HB.out.trans (HB1.out.mono HB.out.size))
    have hx := (HB1.out.block _ hX1).trans HX.out
    obtain ⟨⟨a0, a1, a2, a3, a4⟩, _⟩ := cellsOf5 hx
    clear hx
    have HGD := Lib.hid (good_of HG.out)
    have HF := Lib.hid (fault_all N s.size s (Nat.le_refl _) HGD.out HN.out.1 v HN.out.2.1 HN.out.2.2 _ _ w1 _ _ HSC.out (HV.out.below HB1.out) (HI.out.below HB1.out))
    have HCK := Lib.hid (fun (W : World) (hw : Below w1.heap.size w1 W) => checkS_c N s.size (fault_all N _) s (Nat.le_refl _) HGD.out HN.out.1 v HN.out.2.1 HN.out.2.2 _ _ W _ _ (SchAt.kept (fun b hlt ho => ⟨ho, hw.block b hlt⟩) _ _ HSC.out) ((HV.out.below HB1.out).below hw) ((HI.out.below HB1.out).below hw))
    have HX1 := Lib.hid ((HB1.out.block _ hX1).trans HX.out)
    have hX2 : w.heap.size + 1 < w1.heap.size := Nat.lt_of_lt_of_le hX1 HB1.out.size
    cases hf : faultS s v with
    | none =>
      have HK := Lib.hid (show keepsR s v = true by rw [keepsR, HG.out, hf]; rfl)
      rw [hf] at HF HCK
      rw [show ckE (Option.isSome (none : FR)) = 0 from rfl] at HCK
      clear hf
      go_wp2_with (first | (go_at_call 14; refine (num_c 0 _).mono ?_; rintro e w' ⟨rfl, rfl⟩) | (go_at_call 19; refine HF.out.mono ?_; rintro e w2 ⟨rfl, HB2⟩; clear a0 a1 a2 a3 a4; obtain ⟨⟨a0, a1, a2, a3, a4⟩, _⟩ := cellsOf5 ((HB2.out.block _ hX2).trans HX1.out)))
      have HA2 := Lib.hid (HA1.out.trans (HB2.out.mono HA1.out.size))
      have k0 := cell_regrown a0
      have k1 := cell_regrown a1
      have k2 := cell_regrown a2
      have k3 := cell_regrown a3
      have k4 := cell_regrown a4
      refine wp_region_quiet_below (by kernel_rfl) (by kernel_rfl) ?_
      repeat (go_big_quiet_step ((first | (go_at_call 20; exact regB (HCK.out _ (HB2.out.trans ((below_regrown w2 _ _).mono HB2.out.size)))) | (go_at_call 14; exact regS ((num_c 0 _).mono fun _ _ ⟨h1, h2⟩ => ⟨h1, h2.symm⟩)))))
      refine wpQuiet_nil ?_
      intro _ hw'
      obtain ⟨⟨dq, osq⟩, hw''⟩ := hw'
      subst hw''
      go_wp2
      refine bodyPost_ret (results_tmp2 rfl _ _ _) rfl ?_
      exact ⟨by rw [HK.out, HG.out]; rfl, HA2.out.trans ((below_regrown w2 dq osq).mono HA2.out.size)⟩
    | some pw =>
      obtain ⟨p', wd'⟩ := pw
      have HK := Lib.hid (show keepsR s v = false by rw [keepsR, HG.out, hf]; rfl)
      rw [hf] at HF HCK
      rw [show ckE (Option.isSome (some (p', wd') : FR)) = 212 from rfl] at HCK
      clear hf
      go_wp2_with (first | (go_at_call 14; refine (num_c 0 _).mono ?_; rintro e w' ⟨rfl, rfl⟩) | (go_at_call 19; refine HF.out.mono ?_; rintro e w2 ⟨fa, fc, ss, rfl, -, HB2⟩; clear a0 a1 a2 a3 a4; obtain ⟨⟨a0, a1, a2, a3, a4⟩, _⟩ := cellsOf5 ((HB2.out.block _ hX2).trans HX1.out)))
      have HA2 := Lib.hid (HA1.out.trans (HB2.out.mono HA1.out.size))
      have k0 := cell_regrown a0
      have k1 := cell_regrown a1
      have k2 := cell_regrown a2
      have k3 := cell_regrown a3
      have k4 := cell_regrown a4
      refine wp_region_quiet_below (by kernel_rfl) (by kernel_rfl) ?_
      repeat (go_big_quiet_step ((first | (go_at_call 20; exact regB (HCK.out _ (HB2.out.trans ((below_regrown w2 _ _).mono HB2.out.size)))) | (go_at_call 14; exact regS ((num_c 212 _).mono fun _ _ ⟨h1, h2⟩ => ⟨h1, h2.symm⟩)))))
      refine wpQuiet_nil ?_
      intro _ hw'
      obtain ⟨⟨dq, osq⟩, hw''⟩ := hw'
      subst hw''
      go_wp2
      refine bodyPost_ret (results_tmp2 rfl _ _ _) rfl ?_
      exact ⟨by rw [HK.out, HG.out]; rfl, HA2.out.trans ((below_regrown w2 dq osq).mono HA2.out.size)⟩
end Go.Proofs.YtnmojmmgkipjcaaGreatDoor
