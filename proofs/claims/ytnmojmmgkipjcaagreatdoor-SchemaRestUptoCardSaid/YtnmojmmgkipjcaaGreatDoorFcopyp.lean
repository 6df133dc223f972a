/- The walk of the program's Copy: each list lies in a block of its own. Conditions: what the tree holds is at most 2 to the 40. -/
import Derived.Test.YtnmojmmgkipjcaaGreatDoorFoot
import Derived.Test.YtnmojmmgkipjcaaGreatDoorShelf
import Derived.Test.YtnmojmmgkipjcaaGreatDoorJkit
import Derived.Deep.RegionLaw
namespace Go.Proofs.YtnmojmmgkipjcaaGreatDoor
open Go.RowKit
theorem row_of_owns {w : World} {base E size n : Nat} {v : Value} {xs : List Value} (h : w.ownsRow base E size v n xs) : Row w E size v n xs ∧ ∀ g, v.ownBlock = some g → base ≤ g := by
  refine ⟨⟨h.1, ?_⟩, fun g hg => (World.ownsRow.lt h g hg).1⟩
  rcases h.2 with e | ⟨g, cap, cur, e, _, rest⟩
  · exact .inl e
  · exact .inr ⟨g, cap, cur, e, Nat.zero_le _, rest⟩
theorem ownA_elim {a : Option Addr} {n c b : Nat} (h : b ∈ ownA a) : (Value.slice a n c).ownBlock = some b := by
  cases a with
  | none => simp [ownA] at h
  | some p => simp only [ownA, List.mem_cons, List.not_mem_nil, or_false] at h; rw [h]; rfl
/-- slices.Clone of texts -/
theorem clone_c (w : World) (ok : Nat → Prop) (a : Option Addr) (ns : List ByteArray) (c : Nat) (hst : StrsAt w ok a ns) (hnil : a = none → ns.length = 0) (hb : ns.length * 16 ≤ 140737488355328) :
    Calls Tryz.prog 90 #[.slice a ns.length c] w fun e w' => ∃ a' c', e = .returned (.slice a' ns.length c') ∧ Row w' 9 1 (.slice a' ns.length c') ns.length (ns.map Value.string) ∧ (∀ b ∈ ownA a', w.heap.size ≤ b) ∧ Below w.heap.size w w' := by
  have fin : ∀ (v' : Value) (w' : World), w'.ownsRow w.heap.size 9 1 v' ns.length (ns.map Value.string) → Below w.heap.size w w' → ∃ a' c', Ending.returned v' = .returned (.slice a' ns.length c') ∧ Row w' 9 1 (.slice a' ns.length c') ns.length (ns.map Value.string) ∧ (∀ b ∈ ownA a', w.heap.size ≤ b) ∧ Below w.heap.size w w' := by
    intro v' w' h hbl
    obtain ⟨h1, h2⟩ := row_of_owns h
    obtain ⟨a', c', rfl, _⟩ := h1.form
    exact ⟨a', c', rfl, h1, fun b hm => h2 b (ownA_elim hm), hbl⟩
  cases a with
  | none =>
    have hz := hnil rfl
    have : ns = [] := List.eq_nil_of_length_eq_zero hz
    subst this
    refine (Tryz.slices_Clone_string_nil 0 c w).mono ?_
    rintro e w' ⟨rfl, rfl⟩
    exact ⟨none, 0, rfl, row_nil _ _ _, fun b hm => by simp [ownA] at hm, Below.refl _ _⟩
  | some p =>
    rcases hst with rfl | ⟨b, o, hp, _, hl⟩
    · refine (Tryz.slices_Clone_string_zero p c w).mono ?_
      rintro e w' ⟨v', rfl, h, _, hbl⟩
      exact fin v' w' h hbl
    · injection hp with hp
      subst hp
      refine (Tryz.slices_Clone_string b o ns.length c ns w (Nat.le_refl _) hb (fun j hj => hl j _ (by simp [hj]))).mono ?_
      rintro e w' ⟨v', rfl, h, _, hbl⟩
      rw [List.take_length] at h
      exact fin v' w' h hbl
def PCopySaid (m : Nat) : Prop := ∀ (t : JV), t.size ≤ m → ∀ (cs : List Value) (w : World) (ok : Nat → Prop), Rep w ok t cs → t.bulk ≤ 1099511627776 →
    Calls Tryz.prog 89 #[.agg cs.toArray] w (FreshPost w t)
set_option maxRecDepth 20000 in
set_option maxHeartbeats 8000000 in
theorem pcopy_step (m : Nat) (ih : PCopySaid m) : PCopySaid (m + 1) := by
  intro t hm cs w ok hr hbk
  cases t with
  | mk k n s ns is =>
  rw [rep_mk] at hr
  obtain ⟨hk, hn, hs, an, cn, ai, ci, rfl, hcn, hci, hst, hit⟩ := hr
  unfold maxLen at hcn hci
  have hns := strs_len ns
  have hisl := JV.len_bulks is
  rw [JV.bulk] at hbk
  have IH := Lib.hid ih
  clear ih
  obtain ⟨a0, a1, a2, a3, a4⟩ := cells5' w (.int .i64 k) (.int .i64 n) (.string s) (.slice an ns.length cn) (.slice ai is.length ci) 25
  have hb0 : Below w.heap.size w (w.alloc (.cells #[.int .i64 k, .int .i64 n, .string s, .slice an ns.length cn, .slice ai is.length ci] 25)) := (Below.refl _ _).alloc (Nat.le_refl _) _
  have hb9 : Below ((w.alloc (.cells #[.int .i64 k, .int .i64 n, .string s, .slice an ns.length cn, .slice ai is.length ci] 25))).heap.size (w.alloc (.cells #[.int .i64 k, .int .i64 n, .string s, .slice an ns.length cn, .slice ai is.length ci] 25)) ((w.alloc (.cells #[.int .i64 k, .int .i64 n, .string s, .slice an ns.length cn, .slice ai is.length ci] 25)).alloc (.cells #[.int .i64 0, .int .i64 0, .string ⟨#[]⟩, .slice none 0 0, .slice none 0 0] 25)) := (Below.refl _ _).alloc (Nat.le_refl _) _
  have A0 := cell_below hb9 a0
  have A1 := cell_below hb9 a1
  have A2 := cell_below hb9 a2
  have A3 := cell_below hb9 a3
  have A4 := cell_below hb9 a4
  have hBX : (((w.alloc (.cells #[.int .i64 k, .int .i64 n, .string s, .slice an ns.length cn, .slice ai is.length ci] 25)).alloc (.cells #[.int .i64 0, .int .i64 0, .string ⟨#[]⟩, .slice none 0 0, .slice none 0 0] 25))).heap[w.heap.size]? = some (.cells #[.int .i64 k, .int .i64 n, .string s, .slice an ns.length cn, .slice ai is.length ci] 25) := (hb9.block w.heap.size (by simp)).trans (heap_alloc_new w (.cells #[.int .i64 k, .int .i64 n, .string s, .slice an ns.length cn, .slice ai is.length ci] 25))
  have hRX : (((w.alloc (.cells #[.int .i64 k, .int .i64 n, .string s, .slice an ns.length cn, .slice ai is.length ci] 25)).alloc (.cells #[.int .i64 0, .int .i64 0, .string ⟨#[]⟩, .slice none 0 0, .slice none 0 0] 25))).heap[w.heap.size + 1]? = some (.cells #[.int .i64 0, .int .i64 0, .string ⟨#[]⟩, .slice none 0 0, .slice none 0 0] 25) := by have := heap_alloc_new (w.alloc (.cells #[.int .i64 k, .int .i64 n, .string s, .slice an ns.length cn, .slice ai is.length ci] 25)) (.cells #[.int .i64 0, .int .i64 0, .string ⟨#[]⟩, .slice none 0 0, .slice none 0 0] 25); simpa only [World.size_alloc] using this
  have hB2 := below_trans hb0 hb9
  have hA0 : an = none → ns.length = 0 := by
    rintro rfl
    rcases hst with rfl | ⟨b, off, he, _⟩
    · rfl
    · cases he
  have hcl := clone_c ((w.alloc (.cells #[.int .i64 k, .int .i64 n, .string s, .slice an ns.length cn, .slice ai is.length ci] 25)).alloc (.cells #[.int .i64 0, .int .i64 0, .string ⟨#[]⟩, .slice none 0 0, .slice none 0 0] 25)) ok an ns cn (hst.below hB2) hA0 (by omega)
  have HIT := Lib.hid hit
  have HST := Lib.hid (And.intro hk (And.intro hn hs))
  have HB2 := Lib.hid hB2
  have HBX := Lib.hid hBX
  have HRX := Lib.hid hRX
  clear hst hit hk hn hs hb0 hb9 a0 a1 a2 a3 a4 hB2 hBX hRX
  go_enter Tryz.func89, Tryz.ntmps89
  go_wp2_with fail
  refine hcl.mono ?_; rintro e w1 ⟨bn, dn, rfl, hrow, hfr, hb1⟩
  have hbx1 := (hb1.block w.heap.size (by simp only [World.size_alloc]; omega)).trans HBX.out
  have hrx1 := (hb1.block (w.heap.size + 1) (by simp only [World.size_alloc]; omega)).trans HRX.out
  obtain ⟨⟨c0, c1, c2, c3, c4⟩, f0, f1, f2, f3, f4⟩ := cellsOf5 hbx1
  have hW : Below w.heap.size w w1 := HB2.out.trans (hb1.mono HB2.out.size)
  have hs1 := hb1.size
  simp only [World.size_alloc] at hs1
  have ne : ∀ {i j : Nat}, i ≠ j → (⟨w.heap.size, i, none⟩ : Addr) ≠ ⟨w.heap.size, j, none⟩ := fun h e => h (by injection e)
  have HM0 := Lib.hid (show MidF w w.heap.size (w.heap.size + 1) (.cells #[.int .i64 0, .int .i64 0, .string ⟨#[]⟩, .slice none 0 0, .slice none 0 0] 25) k n s bn ns dn [] (.slice none 0 0) [] [] ((w1.setCell ⟨w.heap.size, 3, none⟩ (.slice bn ns.length dn)).setCell ⟨w.heap.size, 4, none⟩ (.slice none 0 0)) from by
    have hoth : ∀ b, b ≠ w.heap.size → ((w1.setCell ⟨w.heap.size, 3, none⟩ (.slice bn ns.length dn)).setCell ⟨w.heap.size, 4, none⟩ (.slice none 0 0)).heap[b]? = w1.heap[b]? := fun b hne => by
      rw [heap_setCell_other _ _ _ _ hne, heap_setCell_other _ _ _ _ hne]
    have hbn : ∀ b ∈ ownA bn, w.heap.size ≤ b ∧ b ≠ w.heap.size ∧ b ≠ w.heap.size + 1 := fun b hm => by have := hfr b hm; simp only [World.size_alloc] at this; omega
    refine MidF.start ((hW.setCell (Nat.le_refl _) _).setCell (Nat.le_refl _) _) (Nat.le_refl _) (by simp; omega) ?_ ?_ ?_ ?_ ?_ ?_ (by omega) ((hoth _ (by omega)).trans hrx1) (hrow.same (fun g hg => hoth g (hbn g (ownA_mem hg)).2.1)) hbn
    · rw [setO (ne (by decide)), setO (ne (by decide))]; exact c0
    · rw [setO (ne (by decide)), setO (ne (by decide))]; exact c1
    · rw [setO (ne (by decide)), setO (ne (by decide))]; exact c2
    · rw [setO (ne (by decide)), setS c3]
    · rw [setS (by rw [setO (ne (by decide))]; exact c4)]
    · rw [setF, setF]; exact f4)
  have HW := Lib.hid hW
  clear hcl hrow hfr hb1 hbx1 hrx1 hW ne HBX HRX hA0 hcn A0 A1 A2 A3 A4 HB2
  go_wp2
  go_loopw [15] (fun i wr => ∃ j : Nat, j ≤ is.length ∧ i = .int .i64 j ∧ ∃ v xs Fs, Hid (MidF w w.heap.size (w.heap.size + 1) (.cells #[.int .i64 0, .int .i64 0, .string ⟨#[]⟩, .slice none 0 0, .slice none 0 0] 25) k n s bn ns dn (is.take j) v xs Fs wr)) (fun i _ => is.length - (intOf i).toNat)
  case atStart => exact ⟨0, by omega, rfl, _, _, _, HM0⟩
  case round =>
    clear HM0 c0 c1 c2 c3 c4 f0 f1 f2 f3 f4 hs1 HW
    obtain ⟨j, hj, rfl, v, xs, Fs, HM⟩ := hrel
    by_cases hlt : j < is.length
    · have st1 := HIT.out.below HM.out.below
      rcases st1 with rfl | ⟨b, off, rfl, _, hall⟩
      · simp at hlt
      obtain ⟨cs, hrj, hlj⟩ := hall.at j hlt
      have hszj : is[j].size ≤ m := by have h1 := JV.size_le (List.getElem_mem hlt); rw [JV.size] at hm; omega
      have hbj : is[j].bulk ≤ 1099511627776 := by have h1 := JV.bulk_le (List.getElem_mem hlt); omega
      have HT := Lib.hid (show is.take (j + 1) = is.take j ++ [is[j]] by rw [List.take_succ_eq_append_getElem hlt])
      have hlen : (is.take j).length = j := by simp; omega
      have HLT := Lib.hid hlt
      obtain ⟨xan, xcn, xai, xci, rfl⟩ := hrj.form
      obtain ⟨l0, l1, l2, l3, l4⟩ := lie5 hlj
      generalize is[j] = x at *
      have hbA : Below wr.heap.size wr (wr.alloc (.cells #[.int .i64 x.kind, .int .i64 x.int, .string x.text, .slice xan x.names.length xcn, .slice xai x.items.length xci] 25)) := (Below.refl _ _).alloc (Nat.le_refl _) _
      obtain ⟨x0, x1, x2, x3, x4⟩ := cells5' wr (.int .i64 x.kind) (.int .i64 x.int) (.string x.text) (.slice xan x.names.length xcn) (.slice xai x.items.length xci) 25
      have hcall := IH.out x hszj _ (wr.alloc (.cells #[.int .i64 x.kind, .int .i64 x.int, .string x.text, .slice xan x.names.length xcn, .slice xai x.items.length xci] 25)).drew ok (hrj.below (Below.drew hbA)) hbj
      have d4 := cell_below hbA HM.out.c4
      have f4 := (hbA.frozen (p := ⟨w.heap.size, 4, none⟩) HM.out.hlt).trans HM.out.f4
      clear hall hlj hrj
      have hB3 := HM.out.hlt
      have hdrew := Lib.hid (Below.drew hbA)
      clear hbA
      go_wp2_with fail
      go_region_law (first
          | (refine step_app valTy (by rfl) _ _ (by rfl) v j xs (by rfl) (HM.out.row_at (hdrew.out.trans (hbl1.mono hdrew.out.size)) ((Below.refl _ _).alloc (Nat.le_refl _) _) hlen) (some ⟨w1.heap.size, 0, none⟩) 1 1 [.int .i64 x.kind, .int .i64 x.int, .string x.text, .slice yan x.names.length ycn, .slice yai x.items.length yci] (by rfl) (by rfl) (by simp) (fun a ha => by cases ha; exact World.news_of_block (heap_alloc_new w1 _)) (by simp [Value.oneCell']) (by unfold maxLen; omega) (by omega) ?_;
             intro v1 w2 hrow1 hu1; obtain ⟨e4, g4⟩ := HM.out.store (hdrew.out.trans (hbl1.mono hdrew.out.size)) ((Below.refl _ _).alloc (Nat.le_refl _) _) hu1;
             have HM2 := Lib.hid (HM.out.step (hdrew.out.trans (hbl1.mono hdrew.out.size)) hrep1 hnd1 (fun b hm => Nat.le_trans hdrew.out.size (hfr1 b hm)) ((Below.refl _ _).alloc (Nat.le_refl _) _) (by rw [hlen]; exact hrow1) hu1); obtain ⟨g1, c1, hv1, _⟩ := hrow1.form; subst hv1; clear hrow1 hu1 hrep1 hnd1 hfr1 hbl1)
          | (go_simp; go_at_call 89; refine hcall.mono ?_; rintro e w1 ⟨yan, ycn, yai, yci, yF, rfl, hrep1, hnd1, hfr1, hbl1⟩; have e41 := cell_below hbl1 d4; have e42 := cell_below ((Below.refl w1.heap.size w1).alloc (Nat.le_refl _) (.cells #[.int .i64 x.kind, .int .i64 x.int, .string x.text, .slice yan x.names.length ycn, .slice yai x.items.length yci] 25)) e41))
      all_goals clear e4 g4 e41 e42 d4 f4 l0 l1 l2 l3 l4 x0 x1 x2 x3 x4 hcall
      all_goals go_wp2
      all_goals go_roundw
      all_goals first | exact ⟨j + 1, HLT.out, by go_num, _, _, _, Lib.hid (by rw [HT.out]; exact HM2.out)⟩ | (have := HLT.out; simp [intOf]; omega)
    · obtain rfl : j = is.length := by omega
      obtain ⟨hk, hn, hs⟩ := HST.out
      have HM' := HM.out
      rw [List.take_length] at HM'
      obtain ⟨bi, di, F, rfl, hrep, hnd, hfr⟩ := HM'.done hk hn hs
      have b0 := HM'.c0
      have b1 := HM'.c1
      have b2 := HM'.c2
      have b3 := HM'.c3
      have b4 := HM'.c4
      obtain ⟨⟨t0, t1, t2, t3, t4⟩, f0, f1, f2, f3, f4⟩ := cellsOf5 HM'.xX
      have HH := Lib.hid HM'.xX
      have HREP := Lib.hid (And.intro hrep (And.intro hnd (And.intro hfr HM'.below)))
      clear HM HM' hrep hnd hfr hk hn hs
      go_wp2
      (try simp only [Exit.inBlock, Exit.then])
      have hh : wr.heap[w.heap.size + 1]? = _ := HH.out
      refine bodyPost_ret (results_cell_row rfl _ _ (w.heap.size + 1) 25 _ (0, 0) _ (by rfl) (set5 hh) Tryz.underlying25 rfl (by kernel_rfl)) rfl ?_
      obtain ⟨hrep, hnd, hfr, hbw⟩ := HREP.out
      exact ⟨_, _, _, _, F, rfl, RepF.kept _ _ _ hrep (fun b hm => other_set5 (hfr b hm).2.2), hnd, fun b hm => (hfr b hm).1, below_set5 hbw (by omega)⟩
theorem pcopy_all (m : Nat) : PCopySaid m := by
  induction m with
  | zero => intro t hm; have := JV.size_pos t; omega
  | succ m ih => exact pcopy_step m ih
theorem pcopy_c (t : JV) (cs : List Value) (w : World) (ok : Nat → Prop) (hr : Rep w ok t cs) (hb : t.bulk ≤ 1099511627776) : Calls Tryz.prog 89 #[.agg cs.toArray] w (FreshPost w t) :=
  pcopy_all t.size t (Nat.le_refl _) cs w ok hr hb
end Go.Proofs.YtnmojmmgkipjcaaGreatDoor
