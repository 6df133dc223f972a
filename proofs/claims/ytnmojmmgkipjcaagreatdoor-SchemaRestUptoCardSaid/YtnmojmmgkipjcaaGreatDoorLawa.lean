/- The law helpers; the walk of live. Conditions: the tables of utf8 lie as their texts lay them. -/
import Derived.Test.YtnmojmmgkipjcaaGreatDoorParsed
import Derived.Test.YtnmojmmgkipjcaaGreatDoorPartsw
import Derived.Test.YtnmojmmgkipjcaaGreatDoorFaulta
import Derived.KernelRfl
namespace Go.Proofs.YtnmojmmgkipjcaaGreatDoor
open Go.RowKit
/-- the value that a call makes -/
def VRes (w : World) (ok : Nat → Prop) (t : JV) (e : Ending) (w' : World) : Prop := ∃ cs : List Value, e = .returned (.agg cs.toArray) ∧ Hid (Rep w' (fun b => ok b ∨ w.heap.size ≤ b) t cs) ∧ Hid (Below w.heap.size w w')
def jint (n : Int) : JV := .mk 3 n ⟨#[]⟩ [] []
def jobj (nm : ByteArray) (x : JV) : JV := .mk 6 0 ⟨#[]⟩ [nm] [x]
set_option maxHeartbeats 4000000 in
theorem num_c (n : Int) (w : World) : Calls Tryz.prog 14 #[.int .i64 n] w fun e w' => e = .returned (.int .i64 n) ∧ w = w' := by
  go_enter Tryz.func14, Tryz.ntmps14
  go_wp2
  go_ret
  exact ⟨rfl, rfl⟩
theorem results_c1 {P : Program} {fn : Func} {p : Tmp} {ty : TypeId} (h : fn.results = #[.cell p ty]) (tmps : Array Value) (w : World) (g : Nat) (T : TypeId) (cs : Array Value) (fr : Nat × Nat) (d : TypeDesc)
    (hp : tmps.getD p undef = .pointer (some ⟨g, 0, none⟩)) (hg : w.heap[g]? = some (.cells cs T fr)) (hu : P.underlying ty = some d) (hd : (match d with | .struct _ | .array _ _ => true | _ => false) = true) (hi : (P.info? ty).map (·.size) = some cs.size) :
    (results fn tmps).run P w = .ok (.agg cs) w := by
  have hp' : tmps[p]?.getD undef = .pointer (some ⟨g, 0, none⟩) := by simpa using hp
  simp [results, h, hp', asAddr, run_loadVar_row w g T ty cs fr d hg hu hd hi]
set_option maxHeartbeats 4000000 in
theorem number_c (n : Int) (hn : -9223372036854775808 ≤ n ∧ n ≤ 9223372036854775807) (w : World) (ok : Nat → Prop) : Calls Tryz.prog 18 #[.int .i64 n] w (VRes w ok (jint n)) := by
  have HN := Lib.hid hn
  clear hn
  go_enter Tryz.func18, Tryz.ntmps18
  go_wp2
  refine bodyPost_ret (results_c1 rfl _ _ w.heap.size 25 _ (0, 0) _ (by rfl) (heap_alloc_new w _) Tryz.underlying25 rfl (by kernel_rfl)) rfl ?_
  exact ⟨[.int .i64 3, .int .i64 n, .string ⟨#[]⟩, .slice none 0 0, .slice none 0 0], rfl, Lib.hid (by rw [jint, rep_mk]; exact ⟨by omega, HN.out, Nat.zero_le _, none, 0, none, 0, rfl, ⟨Nat.le_refl _, Nat.zero_le _⟩, ⟨Nat.le_refl _, Nat.zero_le _⟩, .inl rfl, .inl rfl⟩), Lib.hid (by repeat (first | with_reducible exact Below.refl _ _ | with_reducible refine below_drewN ?_ _ | with_reducible refine Below.drew ?_ | with_reducible refine below_set5 ?_ (by first | (simp; done) | (simp; omega)) | with_reducible refine Below.alloc ?_ (by first | (simp; done) | (simp; omega)) _ | with_reducible refine Below.setCell ?_ (by first | (simp; done) | (simp; omega)) _))⟩
set_option maxRecDepth 20000 in
set_option maxHeartbeats 4000000 in
theorem object_c (nm : ByteArray) (x : JV) (cs : List Value) (w : World) (ok : Nat → Prop) (hr : Rep w ok x cs) : Calls Tryz.prog 10 #[.string nm, .agg cs.toArray] w (VRes w ok (jobj nm x)) := by
  have HR := Lib.hid hr
  obtain ⟨an, cn, ai, ci, rfl⟩ := hr.form
  clear hr
  go_enter Tryz.func10, Tryz.ntmps10
  go_wp2
  have hN := heap_alloc_new ((w.alloc (.cells #[.int .i64 x.kind, .int .i64 x.int, .string x.text, .slice an x.names.length cn, .slice ai x.items.length ci] 25)).alloc (.cells #[.int .i64 6, .int .i64 0, .string ⟨#[]⟩, .slice (some ⟨w.heap.size + 1 + 1, 0, none⟩) 1 1, .slice (some ⟨w.heap.size + 1 + 1 + 1, 0, none⟩) 1 1] 25)) (.cells #[.string nm] 9)
  have hX := heap_alloc_new (((w.alloc (.cells #[.int .i64 x.kind, .int .i64 x.int, .string x.text, .slice an x.names.length cn, .slice ai x.items.length ci] 25)).alloc (.cells #[.int .i64 6, .int .i64 0, .string ⟨#[]⟩, .slice (some ⟨w.heap.size + 1 + 1, 0, none⟩) 1 1, .slice (some ⟨w.heap.size + 1 + 1 + 1, 0, none⟩) 1 1] 25)).alloc (.cells #[.string nm] 9)) (.cells #[.int .i64 x.kind, .int .i64 x.int, .string x.text, .slice an x.names.length cn, .slice ai x.items.length ci] 25)
  have hR := heap_alloc_new (w.alloc (.cells #[.int .i64 x.kind, .int .i64 x.int, .string x.text, .slice an x.names.length cn, .slice ai x.items.length ci] 25)) (.cells #[.int .i64 6, .int .i64 0, .string ⟨#[]⟩, .slice (some ⟨w.heap.size + 1 + 1, 0, none⟩) 1 1, .slice (some ⟨w.heap.size + 1 + 1 + 1, 0, none⟩) 1 1] 25)
  simp only [World.size_alloc] at hN hX hR
  have hb : Below w.heap.size w ((((w.alloc (.cells #[.int .i64 x.kind, .int .i64 x.int, .string x.text, .slice an x.names.length cn, .slice ai x.items.length ci] 25)).alloc (.cells #[.int .i64 6, .int .i64 0, .string ⟨#[]⟩, .slice (some ⟨w.heap.size + 1 + 1, 0, none⟩) 1 1, .slice (some ⟨w.heap.size + 1 + 1 + 1, 0, none⟩) 1 1] 25)).alloc (.cells #[.string nm] 9)).alloc (.cells #[.int .i64 x.kind, .int .i64 x.int, .string x.text, .slice an x.names.length cn, .slice ai x.items.length ci] 25)) := (by repeat (first | with_reducible exact Below.refl _ _ | with_reducible refine below_drewN ?_ _ | with_reducible refine Below.drew ?_ | with_reducible refine below_set5 ?_ (by first | (simp; done) | (simp; omega)) | with_reducible refine Below.alloc ?_ (by first | (simp; done) | (simp; omega)) _ | with_reducible refine Below.setCell ?_ (by first | (simp; done) | (simp; omega)) _))
  have hN2 := (heap_alloc_old _ (.cells #[.int .i64 x.kind, .int .i64 x.int, .string x.text, .slice an x.names.length cn, .slice ai x.items.length ci] 25) (by simp)).trans hN
  have hR2 := (heap_alloc_old _ (.cells #[.int .i64 x.kind, .int .i64 x.int, .string x.text, .slice an x.names.length cn, .slice ai x.items.length ci] 25) (by simp)).trans ((heap_alloc_old _ (.cells #[.string nm] 9) (by simp)).trans hR)
  refine bodyPost_ret (results_c1 rfl _ _ (w.heap.size + 1) 25 _ (0, 0) _ (by rfl) hR2 Tryz.underlying25 rfl (by kernel_rfl)) rfl ?_
  refine ⟨_, rfl, Lib.hid ?_, Lib.hid hb⟩
  rw [jobj, rep_mk]
  refine ⟨by omega, by omega, Nat.zero_le _, _, 1, _, 1, rfl, ⟨Nat.le_refl _, by unfold maxLen; omega⟩, ⟨Nat.le_refl _, by unfold maxLen; omega⟩, .inr ⟨_, 0, rfl, .inr (by omega), fun j v hj => ?_⟩, .inr ⟨_, 0, rfl, .inr (by omega), ?_⟩⟩
  · rw [Nat.zero_add, cell_of_row _ _ _ _ _ _ hN2, ← hj]
    simp
  · rw [RepAll]
    refine ⟨⟨_, Rep.kept (fun b hlt ho => ⟨.inl ho, hb.block b hlt⟩) _ _ HR.out, fun j v hj => ?_⟩, by rw [RepAll]; trivial⟩
    rw [Nat.zero_add, cell_of_row _ _ _ _ _ _ hX, ← hj]
    simp
set_option maxHeartbeats 4000000 in
theorem mkList_c (is : List JV) (a : Option Addr) (c : Nat) (hc : is.length ≤ c ∧ c ≤ maxLen) (w : World) (ok : Nat → Prop) (hit : ItemsAt w ok a is) : Calls Tryz.prog 11 #[.slice a is.length c] w (VRes w ok (.mk 5 0 ⟨#[]⟩ [] is)) := by
  have HIT := Lib.hid hit
  have HC := Lib.hid hc
  clear hit hc
  go_enter Tryz.func11, Tryz.ntmps11
  go_wp2
  have hb : Below w.heap.size w (w.alloc (.cells #[.int .i64 5, .int .i64 0, .string ⟨#[]⟩, .slice none 0 0, .slice a is.length c] 25)) := (Below.refl _ _).alloc (Nat.le_refl _) _
  refine bodyPost_ret (results_c1 rfl _ _ w.heap.size 25 _ (0, 0) _ (by rfl) (heap_alloc_new w _) Tryz.underlying25 rfl (by kernel_rfl)) rfl ?_
  refine ⟨_, rfl, Lib.hid ?_, Lib.hid hb⟩
  rw [rep_mk]
  exact ⟨by omega, by omega, Nat.zero_le _, none, 0, a, c, rfl, ⟨Nat.le_refl _, Nat.zero_le _⟩, HC.out, .inl rfl, HIT.out.kept (fun b hlt ho => ⟨.inl ho, hb.block b hlt⟩)⟩
/-- how many parts some have -/
def sumP : List JV → Int
  | [] => 0
  | x :: r => parts x 3000 + sumP r
theorem sumP_take (l : List JV) (j : Nat) (h : j < l.length) : sumP (l.take (j + 1)) = sumP (l.take j) + parts l[j] 3000 := by
  induction l generalizing j with
  | nil => simp at h
  | cons x r ih =>
    cases j with
    | zero => simp [sumP]
    | succ j =>
      rw [List.take_succ_cons, List.take_succ_cons, sumP, sumP, ih j (by simpa using h), List.getElem_cons_succ]
      omega
theorem sumP_bd : ∀ l : List JV, (∀ x ∈ l, x.bulk ≤ 1099511627776) → 0 ≤ sumP l ∧ sumP l ≤ 1099511627776 * l.length
  | [], _ => by simp [sumP]
  | x :: r, h => by
    have h1 := parts_bd x 3000
    have h2 := h x (by simp)
    have h3 := sumP_bd r (fun y hy => h y (by simp [hy]))
    rw [sumP, List.length_cons]
    omega
def largeS (l : List JV) : Bool := decide (3000 < sumP l)
set_option maxRecDepth 20000 in
set_option maxHeartbeats 4000000 in
theorem large_c (l : List JV) (hl : l.length ≤ 3) (hbk : ∀ x ∈ l, x.bulk ≤ 1099511627776) (a : Option Addr) (c : Nat) (w : World) (ok : Nat → Prop) (hit : ItemsAt w ok a l) : Calls Tryz.prog 6 #[.slice a l.length c] w fun e w' => e = .returned (.bool (largeS l)) ∧ Below w.heap.size w w' := by
  have HIT := Lib.hid hit
  have HBK := Lib.hid hbk
  have HL := Lib.hid (show largeS l = decide (3000 < sumP l) from rfl)
  clear hit hbk
  go_enter Tryz.func6, Tryz.ntmps6
  go_wp2
  go_loopw [3, 4] (fun n q wr => ∃ (j : Nat) (z : Int), j ≤ l.length ∧ q = .int .i64 j ∧ n = .int .i64 z ∧ 0 ≤ z ∧ z ≤ 1099511627776 * 3 ∧ Hid (z = sumP (l.take j)) ∧ Hid (Below w.heap.size w wr)) (fun _ q _ => l.length - (intOf q).toNat)
  case atStart => exact ⟨0, 0, Nat.zero_le _, rfl, rfl, by omega, by omega, Lib.hid rfl, Lib.hid (Below.refl _ _)⟩
  case round =>
    obtain ⟨j, z, hj, rfl, rfl, hz0, hz1, HQ, HBL⟩ := hrel
    by_cases hlt : j < l.length
    · obtain ⟨b2, off2, an2, cn2, ai2, ci2, rfl, hrj, hlj⟩ := (HIT.out.below HBL.out).at j hlt
      obtain ⟨l0, l1, l2, l3, l4⟩ := lie5 hlj
      have HP := Lib.hid (parts_c l[j] _ wr _ 3000 hrj (HBK.out _ (List.getElem_mem hlt)) (by omega) (by omega))
      have HPB := Lib.hid (parts_bd l[j] 3000)
      have HJB := Lib.hid (HBK.out _ (List.getElem_mem hlt))
      have HQ2 := Lib.hid (show z + parts l[j] 3000 = sumP (l.take (j + 1)) by rw [HQ.out, sumP_take l j hlt])
      have hbd : 0 ≤ z + parts l[j] 3000 ∧ z + parts l[j] 3000 ≤ 1099511627776 * 3 := by
        have h1 := sumP_bd (l.take (j + 1)) (fun x hx => HBK.out x (List.mem_of_mem_take hx))
        have h2 : (l.take (j + 1)).length ≤ 3 := Nat.le_trans (List.length_take_le' _ _) hl
        rw [HQ2.out]
        omega
      obtain ⟨hbd0, hbd1⟩ := hbd
      clear hrj hlj HQ HPB HJB
      generalize parts l[j] 3000 = pp at *
      generalize l[j] = y at *
      go_wp2_with fail
      refine HP.out.mono ?_; rintro e w1 ⟨rfl, hb1⟩
      have HB1 := Lib.hid (HBL.out.trans (hb1.mono HBL.out.size))
      clear hb1 l0 l1 l2 l3 l4
      have hpp : pp ≤ 1099511627776 * 3 := by omega
      have hpm : -1099511627776 * 3 ≤ pp := by omega
      go_wp2
      go_roundw
      case rel => exact ⟨j + 1, _, by omega, by go_num, rfl, hbd0, hbd1, HQ2, HB1⟩
      case measure => simp [intOf]; omega
    · obtain rfl : j = l.length := by omega
      have HQ2 := Lib.hid (show z = sumP l by rw [HQ.out, List.take_length])
      go_wp2
      go_ret
      exact ⟨by rw [HL.out, ← HQ2.out]; rfl, HBL.out⟩
set_option maxHeartbeats 4000000 in
theorem rules_c (p : Nat) (n : Int) (w : World) (h : w.cell? ⟨p, 1, none⟩ = some (.int .i64 n)) : Calls Tryz.prog 16 #[.pointer (some ⟨p, 0, none⟩)] w fun e w' => e = .returned (.int .i64 n) ∧ w = w' := by
  go_enter Tryz.func16, Tryz.ntmps16
  go_wp2
  go_ret
  exact ⟨rfl, rfl⟩
set_option maxHeartbeats 4000000 in
theorem rulesNil_c (w : World) : Calls Tryz.prog 16 #[.pointer none] w fun e w' => e = .returned (.int .i64 0) ∧ w = w' := by
  go_enter Tryz.func16, Tryz.ntmps16
  go_wp2
  go_ret
  exact ⟨rfl, rfl⟩
end Go.Proofs.YtnmojmmgkipjcaaGreatDoor
namespace Go.Proofs.YtnmojmmgkipjcaaGreatDoor
open Go.RowKit
theorem fault_all (N : Nat) : ∀ m : Nat, FaultSaid N m
  | 0 => fun t hm => by have := JV.size_pos t; omega
  | m + 1 => fault_step N m (fault_all N m)
def liveT : JV := jobj ⟨#[112, 114, 111, 112, 101, 114, 116, 105, 101, 115]⟩ (jobj ⟨#[110]⟩ (jobj ⟨#[109, 105, 110, 105, 109, 117, 109]⟩ (jint 1)))
theorem live_chk : chk liveT 0 = 0 := by kernel_rfl
theorem live_read : readS liveT 0 0 = .ok 2 := by kernel_rfl
theorem live_f0 : faultS liveT (jobj ⟨#[110]⟩ (jint 0)) = some ([some ⟨#[110]⟩], ⟨#[109, 105, 110, 105, 109, 117, 109]⟩) := by kernel_rfl
theorem live_f1 : faultS liveT (jobj ⟨#[110]⟩ (jint 1)) = none := by kernel_rfl
/-- WALK -/
theorem ito_small (w : World) : ItoC 100 w := fun W _ i hi => (Tryz.strconv_Itoa_small i hi W).mono fun _ _ ⟨h1, h2⟩ => ⟨_, h1, by rw [h2]; exact Below.refl _ _⟩
theorem like_one {ss : List ByteArray} {n : ByteArray} (h : Like ss [some n]) : ss = [n] := by
  obtain ⟨h1, h2⟩ := h
  cases ss with
  | nil => simp at h1
  | cons x r =>
    cases r with
    | nil => have := h2 0 n rfl; simp at this; rw [this]
    | cons y r => simp at h1
theorem live_good : Good liveT := ⟨okU_chk _ _ live_chk, 0, 0, 2, live_read⟩
set_option maxRecDepth 20000 in
set_option maxHeartbeats 8000000 in
theorem live_c (w : World) (hT : Lib.Utf8Tabs 0 1 w) : Calls Tryz.prog 7 #[] w fun e w' => e = .returned (.bool true) ∧ Below w.heap.size w w' := by
  have HT := Lib.hid hT
  have HA0 := Lib.hid (Below.refl w.heap.size w)
  clear hT
  go_enter Tryz.func7, Tryz.ntmps7
  go_wp2_with fail
  refine (number_c 1 (by omega) _ (fun _ => False)).mono ?_; rintro e w1 ⟨c1, rfl, HR1, HB1⟩
  have HA1 := Lib.hid (HA0.out.trans (HB1.out.mono HA0.out.size))
  go_wp2_with fail
  refine (object_c _ _ _ _ _ HR1.out).mono ?_; rintro e w2 ⟨c2, rfl, HR2, HB2⟩
  have HA2 := Lib.hid (HA1.out.trans (HB2.out.mono HA1.out.size))
  go_wp2_with fail
  refine (object_c _ _ _ _ _ HR2.out).mono ?_; rintro e w3 ⟨c3, rfl, HR3, HB3⟩
  have HA3 := Lib.hid (HA2.out.trans (HB3.out.mono HA2.out.size))
  go_wp2_with fail
  refine (object_c _ _ _ _ _ HR3.out).mono ?_; rintro e w4 ⟨c4, rfl, HR4, HB4⟩
  have HA4 := Lib.hid (HA3.out.trans (HB4.out.mono HA3.out.size))
  go_wp2_with fail
  refine (parse_ok liveT (by decide) _ _ _ HR4.out (tabs_below HT.out HA4.out) live_chk 2 live_read).mono ?_; rintro e w5 ⟨p, rfl, HSC, -, HB5⟩
  have HA5 := Lib.hid (HA4.out.trans (HB5.out.mono HA4.out.size))
  go_wp2_with fail
  refine (num_c 0 _).mono ?_; rintro e w' ⟨rfl, rfl⟩
  go_wp2_with fail
  refine (number_c 0 (by omega) _ (fun _ => False)).mono ?_; rintro e w6 ⟨c6, rfl, HR6, HB6⟩
  have HA6 := Lib.hid (HA5.out.trans (HB6.out.mono HA5.out.size))
  go_wp2_with fail
  refine (object_c _ _ _ _ _ HR6.out).mono ?_; rintro e w7 ⟨c7, rfl, HR7, HB7⟩
  have HA7 := Lib.hid (HA6.out.trans (HB7.out.mono HA6.out.size))
  have HSF := Lib.hid (fun (W : World) (hw : Below w5.heap.size w5 W) => SchAt.kept (fun b hlt ho => ⟨ho, hw.block b hlt⟩) _ _ HSC.out)
  have HB67 := Lib.hid (HB6.out.trans (HB7.out.mono HB6.out.size))
  have HF0 := Lib.hid (fault_all 100 liveT.size liveT (Nat.le_refl _) live_good (by decide) (jobj ⟨#[110]⟩ (jint 0)) (by decide) (by decide) _ _ w7 _ _ (HSF.out w7 HB67.out) HR7.out (ito_small w7))
  rw [live_f0] at HF0
  go_wp2_with fail
  refine HF0.out.mono ?_; rintro e w8 ⟨fa, fc, ss, rfl, HL8, HB8⟩
  have HA8 := Lib.hid (HA7.out.trans (HB8.out.mono HA7.out.size))
  obtain rfl := like_one HL8.out.2.2.1
  have hcell : ∃ b off, fa = some ⟨b, off, none⟩ ∧ w8.cell? ⟨b, off, none⟩ = some (.string ⟨#[110]⟩) := by
    rcases HL8.out.2.2.2 with h | ⟨b, off, e, _, hl⟩
    · cases h
    · exact ⟨b, off, e, hl 0 _ rfl⟩
  obtain ⟨fb, fo, rfl, hfc⟩ := hcell
  have HFC := Lib.hid hfc
  have HB68 := Lib.hid (HB67.out.trans (HB8.out.mono HB67.out.size))
  clear hfc
  go_wp2_with fail
  refine (number_c 1 (by omega) _ (fun _ => False)).mono ?_; rintro e w9 ⟨c9, rfl, HR9, HB9⟩
  have HA9 := Lib.hid (HA8.out.trans (HB9.out.mono HA8.out.size))
  go_wp2_with fail
  refine (object_c _ _ _ _ _ HR9.out).mono ?_; rintro e w10 ⟨c10, rfl, HR10, HB10⟩
  have HA10 := Lib.hid (HA9.out.trans (HB10.out.mono HA9.out.size))
  have HB10' := Lib.hid ((HB68.out.trans (HB9.out.mono HB68.out.size)).trans (HB10.out.mono (Nat.le_trans HB68.out.size HB9.out.size)))
  have HC1 := Lib.hid (checkS_c 100 liveT.size (fault_all 100 _) liveT (Nat.le_refl _) live_good (by decide) (jobj ⟨#[110]⟩ (jint 1)) (by decide) (by decide) _ _ w10 _ _ (HSF.out w10 HB10'.out) HR10.out (ito_small w10))
  rw [live_f1, show ckE (Option.isSome (none : FR)) = 0 from rfl] at HC1
  go_wp2_with fail
  refine HC1.out.mono ?_; rintro e w11 ⟨rfl, hb11⟩
  have HB11 := Lib.hid hb11
  have HA11 := Lib.hid (HA10.out.trans (hb11.mono HA10.out.size))
  have HB11' := Lib.hid (HB10'.out.trans (hb11.mono HB10'.out.size))
  clear hb11
  go_wp2_with fail
  refine (num_c 0 _).mono ?_; rintro e w' ⟨rfl, rfl⟩
  go_wp2_with fail
  refine (number_c 0 (by omega) _ (fun _ => False)).mono ?_; rintro e w12 ⟨c12, rfl, HR12, HB12⟩
  have HA12 := Lib.hid (HA11.out.trans (HB12.out.mono HA11.out.size))
  go_wp2_with fail
  refine (object_c _ _ _ _ _ HR12.out).mono ?_; rintro e w13 ⟨c13, rfl, HR13, HB13⟩
  have HA13 := Lib.hid (HA12.out.trans (HB13.out.mono HA12.out.size))
  have HB13' := Lib.hid ((HB11'.out.trans (HB12.out.mono HB11'.out.size)).trans (HB13.out.mono (Nat.le_trans HB11'.out.size HB12.out.size)))
  have HC2 := Lib.hid (checkS_c 100 liveT.size (fault_all 100 _) liveT (Nat.le_refl _) live_good (by decide) (jobj ⟨#[110]⟩ (jint 0)) (by decide) (by decide) _ _ w13 _ _ (HSF.out w13 HB13'.out) HR13.out (ito_small w13))
  rw [live_f0, show ckE (Option.isSome (some ([some ⟨#[110]⟩], ⟨#[109, 105, 110, 105, 109, 117, 109]⟩) : FR)) = 212 from rfl] at HC2
  go_wp2_with fail
  refine HC2.out.mono ?_; rintro e w14 ⟨rfl, hb14⟩
  have HA14 := Lib.hid (HA13.out.trans (hb14.mono HA13.out.size))
  have hfc := cell_below hb14 (cell_below HB13.out (cell_below HB12.out (cell_below HB11.out (cell_below HB10.out (cell_below HB9.out HFC.out)))))
  clear hb14
  go_wp2_with (go_at_call 14; refine (num_c 212 _).mono ?_; rintro e w' ⟨rfl, rfl⟩)
  go_ret
  exact ⟨rfl, HA14.out⟩
end Go.Proofs.YtnmojmmgkipjcaaGreatDoor
