/- The walk of the document's Copy. Conditions: what the tree holds is at most 2 to the 40. -/
import Derived.Test.YtnmojmmgkipjcaaGreatDoorCopyl
import Derived.Deep.RegionLaw
namespace Go.Proofs.YtnmojmmgkipjcaaGreatDoor
open Go.RowKit
/-- What Copy answers. -/
def CopyPost (w : World) (t : JV) (e : Ending) (w' : World) : Prop := ∃ an cn ai ci, e = .returned (.agg #[.int .i64 t.kind, .int .i64 t.int, .string t.text, .slice an t.names.length cn, .slice ai t.items.length ci]) ∧
  Rep w' (fun b => w.heap.size ≤ b) t [.int .i64 t.kind, .int .i64 t.int, .string t.text, .slice an t.names.length cn, .slice ai t.items.length ci] ∧ Below w.heap.size w w'
def CopySaid (m : Nat) : Prop := ∀ (t : JV), t.size ≤ m → ∀ (cs : List Value) (w : World) (ok : Nat → Prop), Rep w ok t cs → t.bulk ≤ 1099511627776 →
    Calls Tryz.prog 12 #[.agg cs.toArray] w (CopyPost w t)
set_option maxRecDepth 20000 in
set_option maxHeartbeats 4000000 in
theorem copy_step (m : Nat) (ih : CopySaid m) : CopySaid (m + 1) := by
  intro t hm cs w ok hr hbk
  cases t with
  | mk k n s ns is =>
  rw [rep_mk] at hr
  obtain ⟨hk, hn, hs, an, cn, ai, ci, rfl, hcn, hci, hst, hit⟩ := hr
  unfold maxLen at hcn hci
  have hns := strs_len ns
  have hisl := JV.len_bulks is
  rw [JV.bulk] at hbk
  have IH := Lib.hid ih
  clear ih
  obtain ⟨a0, a1, a2, a3, a4⟩ := cells5' w (.int .i64 k) (.int .i64 n) (.string s) (.slice an ns.length cn) (.slice ai is.length ci) 25
  have hb0 : Below w.heap.size w (w.alloc (.cells #[.int .i64 k, .int .i64 n, .string s, .slice an ns.length cn, .slice ai is.length ci] 25)) := (Below.refl _ _).alloc (Nat.le_refl _) _
  have hb9 : Below ((w.alloc (.cells #[.int .i64 k, .int .i64 n, .string s, .slice an ns.length cn, .slice ai is.length ci] 25))).heap.size (w.alloc (.cells #[.int .i64 k, .int .i64 n, .string s, .slice an ns.length cn, .slice ai is.length ci] 25)) (((w.alloc (.cells #[.int .i64 k, .int .i64 n, .string s, .slice an ns.length cn, .slice ai is.length ci] 25)).alloc (.cells #[.int .i64 0, .int .i64 0, .string ⟨#[]⟩, .slice none 0 0, .slice none 0 0] 25))) := (Below.refl _ _).alloc (Nat.le_refl _) _
  have A0 := cell_below hb9 a0
  have A1 := cell_below hb9 a1
  have A2 := cell_below hb9 a2
  have A3 := cell_below hb9 a3
  have A4 := cell_below hb9 a4
  obtain ⟨r0, r1, r2, r3, r4⟩ := cells5' (w.alloc (.cells #[.int .i64 k, .int .i64 n, .string s, .slice an ns.length cn, .slice ai is.length ci] 25)) (.int .i64 0) (.int .i64 0) (.string ⟨#[]⟩) (.slice none 0 0) (.slice none 0 0) 25
  have fr : ∀ i, (((w.alloc (.cells #[.int .i64 k, .int .i64 n, .string s, .slice an ns.length cn, .slice ai is.length ci] 25)).alloc (.cells #[.int .i64 0, .int .i64 0, .string ⟨#[]⟩, .slice none 0 0, .slice none 0 0] 25))).frozen? ⟨((w.alloc (.cells #[.int .i64 k, .int .i64 n, .string s, .slice an ns.length cn, .slice ai is.length ci] 25))).heap.size, i, none⟩ = false := fun i => frozen_of_row _ _ _ _ _ (heap_alloc_new _ _)
  have hB2 := Lib.hid (below_trans hb0 hb9)
  have HR := Lib.hid (And.intro r0 (And.intro r1 (And.intro r2 (And.intro r3 (And.intro r4 fr)))))
  clear r0 r1 r2 r3 r4 fr
  have hst1 := (hst.below hb0).below hb9
  have hit1 := (hit.below hb0).below hb9
  have hA0 : an = none → ns.length = 0 := by
    rintro rfl
    rcases hst with rfl | ⟨b, off, he, _⟩
    · rfl
    · cases he
  have hnw : ∀ (W : World), Below (((w.alloc (.cells #[.int .i64 k, .int .i64 n, .string s, .slice an ns.length cn, .slice ai is.length ci] 25)).alloc (.cells #[.int .i64 0, .int .i64 0, .string ⟨#[]⟩, .slice none 0 0, .slice none 0 0] 25))).heap.size (((w.alloc (.cells #[.int .i64 k, .int .i64 n, .string s, .slice an ns.length cn, .slice ai is.length ci] 25)).alloc (.cells #[.int .i64 0, .int .i64 0, .string ⟨#[]⟩, .slice none 0 0, .slice none 0 0] 25))) W →
      ∀ a, an = some a → ∀ j u, (ns.map Value.string)[j]? = some u → W.cell? (a.add j) = some u := fun W hW => (hst1.below hW).news
  have HNW := Lib.hid hnw
  have HIT := Lib.hid hit1
  have HST := Lib.hid (And.intro hk (And.intro hn hs))
  clear hnw hst1 hst hit hit1 hk hn hs hb0 hb9 a0 a1 a2 a3 a4
  go_enter Tryz.func12, Tryz.ntmps12
  go_wp2_with fail
  go_cut [3] from 5 to 15 (fun p wx => ∃ B3 an' cn', p = .pointer (some ⟨B3, 0, none⟩) ∧ Dest ((w.alloc (.cells #[.int .i64 k, .int .i64 n, .string s, .slice an ns.length cn, .slice ai is.length ci] 25)).alloc (.cells #[.int .i64 0, .int .i64 0, .string ⟨#[]⟩, .slice none 0 0, .slice none 0 0] 25)) B3 k n s an' ns cn' wx)
  case first =>
    go_region_held3 (fun w' => w'.cell? ⟨w.heap.size, 0, none⟩ = some (.int .i64 k) ∧ w'.cell? ⟨w.heap.size, 1, none⟩ = some (.int .i64 n) ∧ w'.cell? ⟨w.heap.size, 2, none⟩ = some (.string s) ∧ w'.cell? ⟨w.heap.size, 3, none⟩ = some (.slice an ns.length cn))
      (exact keep4 (w0 := ((w.alloc (.cells #[.int .i64 k, .int .i64 n, .string s, .slice an ns.length cn, .slice ai is.length ci] 25)).alloc (.cells #[.int .i64 0, .int .i64 0, .string ⟨#[]⟩, .slice none 0 0, .slice none 0 0] 25))) (by repeat (first | with_reducible exact Below.refl _ _ | with_reducible exact hbl1 | with_reducible refine Below.drew ?_ | with_reducible refine Below.alloc ?_ (by first | (simp; done) | (simp; omega)) _ | with_reducible refine Below.setCell ?_ (by first | (simp; done) | (simp; omega)) _)) A0 A1 A2 A3)
      ((refine step_app strTy (by rfl) _ _ (by rfl) _ 0 [] (by rfl) (by first | exact rowMade (by simp) | exact rowMade2 (by simp)) an ns.length cn (ns.map Value.string) (by rfl) (by simp) hA0 (HNW.out _ (by repeat (first | with_reducible exact Below.refl _ _ | with_reducible refine Below.drew ?_ | with_reducible refine Below.alloc ?_ (by simp) _))) (one_strs ns) (by unfold maxLen; omega) (by omega) ?_; intro v1 w1 hrow1 hu1; rw [Nat.zero_add, List.nil_append] at hrow1; obtain ⟨g1, c1, hv1, hgc, hgm, hgf⟩ := hrow1.form; subst hv1;
        have hbl1 : Below (((w.alloc (.cells #[.int .i64 k, .int .i64 n, .string s, .slice an ns.length cn, .slice ai is.length ci] 25)).alloc (.cells #[.int .i64 0, .int .i64 0, .string ⟨#[]⟩, .slice none 0 0, .slice none 0 0] 25))).heap.size (((w.alloc (.cells #[.int .i64 k, .int .i64 n, .string s, .slice an ns.length cn, .slice ai is.length ci] 25)).alloc (.cells #[.int .i64 0, .int .i64 0, .string ⟨#[]⟩, .slice none 0 0, .slice none 0 0] 25))) w1 := Below.trans (by repeat (first | with_reducible exact Below.refl _ _ | with_reducible refine Below.drew ?_ | with_reducible refine Below.alloc ?_ (by simp) _)) (hu1.below (B := (((w.alloc (.cells #[.int .i64 k, .int .i64 n, .string s, .slice an ns.length cn, .slice ai is.length ci] 25)).alloc (.cells #[.int .i64 0, .int .i64 0, .string ⟨#[]⟩, .slice none 0 0, .slice none 0 0] 25))).heap.size) (by first | (simp; done) | (simp; omega)) (fun g hg => by first | (have e' : w.heap.size + 1 + 1 = g := Option.some.inj hg; simp; omega) | (have e' : w.heap.size + 1 + 1 + 1 = g := Option.some.inj hg; simp; omega)));
        have hs1 := hu1.grown.size; simp only [World.size_alloc, World.size_drew] at hs1; have ho1 := hu1.own'; simp only [World.size_alloc, World.size_drew] at ho1;
        first | (obtain ⟨q0, q1, q2, q3, q4, q5, q6, q7, q8, q9⟩ := hu1.newA (B := w.heap.size + 1 + 1) (by simp)) | (obtain ⟨q0, q1, q2, q3, q4, q5, q6, q7, q8, q9⟩ := hu1.newB (B := w.heap.size + 1 + 1) (by simp)) | skip;
        have HW1 := Lib.hid (And.intro hbl1 (And.intro hrow1 ho1)); clear hu1 hgf hgc hgm hrow1 ho1))
    all_goals go_wp2_with fail
    all_goals go_meet
    · obtain ⟨hbl1, hrow1, ho1⟩ := HW1.out
      exact ⟨_, _, _, rfl, dest_alloc hbl1 (by simp only [World.size_alloc]; omega) hrow1 ho1 (by simp only [World.size_alloc]; omega) (by simp only [World.size_alloc]; omega)⟩
    · obtain ⟨hbl1, hrow1, ho1⟩ := HW1.out
      exact ⟨_, _, _, rfl, dest_set hbl1 hrow1 ho1 (by simp only [World.size_alloc]; omega) (by simp only [World.size_alloc]; omega) (by simp only [World.size_alloc]; omega) (by omega) (by omega) q0 q1 q2 q3 q4 q9⟩
    · obtain ⟨hbl1, hrow1, ho1⟩ := HW1.out
      exact ⟨_, _, _, rfl, dest_set hbl1 hrow1 ho1 (by simp only [World.size_alloc]; omega) (by simp only [World.size_alloc]; omega) (by simp only [World.size_alloc]; omega) (by omega) (by omega) q0 q1 q2 q3 q4 q9⟩
  case rest =>
    obtain ⟨B3, an', cn', rfl, hd⟩ := hcut
    have hit1 := HIT.out
    have HM0 := Lib.hid (hd.mid (E := 25))
    clear hd HNW hA0 hcn
    go_wp2
    go_loopw [4] (fun i wr => ∃ j : Nat, j ≤ is.length ∧ i = .int .i64 j ∧ ∃ v xs, Hid (Mid ((w.alloc (.cells #[.int .i64 k, .int .i64 n, .string s, .slice an ns.length cn, .slice ai is.length ci] 25)).alloc (.cells #[.int .i64 0, .int .i64 0, .string ⟨#[]⟩, .slice none 0 0, .slice none 0 0] 25)) B3 25 k n s an' ns cn' (is.take j) v xs wr)) (fun i _ => is.length - (intOf i).toNat)
    case atStart => exact ⟨0, by omega, rfl, _, _, HM0⟩
    case round =>
      clear HM0
      obtain ⟨j, hj, rfl, v, xs, HM⟩ := hrel
      have c4 := cell_below HM.out.below A4
      by_cases hlt : j < is.length
      · have st1 := hit1.below HM.out.below
        rcases st1 with rfl | ⟨b, off, rfl, _, hall⟩
        · simp at hlt
        obtain ⟨cs, hrj, hlj⟩ := hall.at j hlt
        have hszj : is[j].size ≤ m := by have h1 := JV.size_le (List.getElem_mem hlt); rw [JV.size] at hm; omega
        have hbj : is[j].bulk ≤ 1099511627776 := by have h1 := JV.bulk_le (List.getElem_mem hlt); omega
        have HT := Lib.hid (show is.take (j + 1) = is.take j ++ [is[j]] by rw [List.take_succ_eq_append_getElem hlt])
        have hlen : (is.take j).length = j := by simp; omega
        have HLT := Lib.hid hlt
        obtain ⟨xan, xcn, xai, xci, rfl⟩ := hrj.form
        obtain ⟨l0, l1, l2, l3, l4⟩ := lie5 hlj
        have hcall := IH.out is[j] hszj _ wr.drew ok (hrj.below (Below.drew (Below.refl _ _))) hbj
        have d4 := HM.out.c4
        have f4 := HM.out.f4
        generalize is[j] = x at *
        clear hall hlj hrj hit1
        have hB3 := HM.out.hlt
        have hBx := HM.out.hB
        simp only [World.size_alloc] at hBx
        clear A0 A1 A2 A3
        have hdrew := Lib.hid (Below.drew (Below.refl wr.heap.size wr))
        go_wp2_with fail
        go_region_law (first
            | (refine step_app valTy (by rfl) _ _ (by rfl) v j xs (by rfl) (HM.out.row_at (Below.trans hdrew.out hbl1) ((Below.refl _ _).alloc (Nat.le_refl _) _) hlen) (some ⟨w1.heap.size, 0, none⟩) 1 1 [.int .i64 x.kind, .int .i64 x.int, .string x.text, .slice yan x.names.length ycn, .slice yai x.items.length yci] (by rfl) (by rfl) (by simp) (fun a ha => by cases ha; exact World.news_of_block (heap_alloc_new w1 _)) (by simp [Value.oneCell']) (by unfold maxLen; omega) (by omega) ?_;
               intro v1 w2 hrow1 hu1; obtain ⟨e4, g4⟩ := HM.out.store (Below.trans hdrew.out hbl1) ((Below.refl _ _).alloc (Nat.le_refl _) _) hu1;
               have HM2 := Lib.hid (HM.out.step (Below.trans hdrew.out hbl1) hrep1 ((Below.refl _ _).alloc (Nat.le_refl _) _) (by rw [hlen]; exact hrow1) hu1); obtain ⟨g1, c1, hv1, _⟩ := hrow1.form; subst hv1; clear hrow1 hu1 hrep1 hbl1)
            | (go_simp; go_at_call 12; refine hcall.mono ?_; rintro e w1 ⟨yan, ycn, yai, yci, rfl, hrep1, hbl1⟩; have e41 := cell_below (Below.trans hdrew.out hbl1) d4; have e42 := cell_below ((Below.refl w1.heap.size w1).alloc (Nat.le_refl _) (.cells #[.int .i64 x.kind, .int .i64 x.int, .string x.text, .slice yan x.names.length ycn, .slice yai x.items.length yci] 25)) e41))
        all_goals clear e4 g4 e41 e42 d4 f4 l0 l1 l2 l3 l4 c4 hcall
        all_goals go_wp2
        all_goals go_roundw
        all_goals first | exact ⟨j + 1, HLT.out, by go_num, _, _, Lib.hid (by rw [HT.out]; exact HM2.out)⟩ | (have := HLT.out; simp [intOf]; omega)
      · obtain rfl : j = is.length := by omega
        obtain ⟨r0, r1, r2, r3, r4, fr⟩ := HR.out
        obtain ⟨hk, hn, hs⟩ := HST.out
        have HM' := HM.out
        rw [List.take_length] at HM'
        obtain ⟨bi, di, rfl, hrep⟩ := HM'.done hk hn hs
        have b0 := HM'.c0
        have b1 := HM'.c1
        have b2 := HM'.c2
        have b3 := HM'.c3
        have b4 := HM'.c4
        have hbw := HM'.below
        have t0 := cell_below hbw r0
        have t1 := cell_below hbw r1
        have t2 := cell_below hbw r2
        have t3 := cell_below hbw r3
        have t4 := cell_below hbw r4
        have f0 := (hbw.frozen (p := ⟨((w.alloc (.cells #[.int .i64 k, .int .i64 n, .string s, .slice an ns.length cn, .slice ai is.length ci] 25))).heap.size, 0, none⟩) (by simp only [World.size_alloc]; omega)).trans (fr 0)
        have f1 := (hbw.frozen (p := ⟨((w.alloc (.cells #[.int .i64 k, .int .i64 n, .string s, .slice an ns.length cn, .slice ai is.length ci] 25))).heap.size, 1, none⟩) (by simp only [World.size_alloc]; omega)).trans (fr 1)
        have f2 := (hbw.frozen (p := ⟨((w.alloc (.cells #[.int .i64 k, .int .i64 n, .string s, .slice an ns.length cn, .slice ai is.length ci] 25))).heap.size, 2, none⟩) (by simp only [World.size_alloc]; omega)).trans (fr 2)
        have f3 := (hbw.frozen (p := ⟨((w.alloc (.cells #[.int .i64 k, .int .i64 n, .string s, .slice an ns.length cn, .slice ai is.length ci] 25))).heap.size, 3, none⟩) (by simp only [World.size_alloc]; omega)).trans (fr 3)
        have f4 := (hbw.frozen (p := ⟨((w.alloc (.cells #[.int .i64 k, .int .i64 n, .string s, .slice an ns.length cn, .slice ai is.length ci] 25))).heap.size, 4, none⟩) (by simp only [World.size_alloc]; omega)).trans (fr 4)
        simp only [World.size_alloc] at t0 t1 t2 t3 t4 f0 f1 f2 f3 f4
        have HH := Lib.hid ((hbw.block (w.heap.size + 1) (by simp only [World.size_alloc]; omega)).trans (by have := heap_alloc_new (w.alloc (.cells #[.int .i64 k, .int .i64 n, .string s, .slice an ns.length cn, .slice ai is.length ci] 25)) (.cells #[.int .i64 0, .int .i64 0, .string ⟨#[]⟩, .slice none 0 0, .slice none 0 0] 25); simpa only [World.size_alloc] using this))
        have HREP := Lib.hid (And.intro hrep hbw)
        clear HM HM' r0 r1 r2 r3 r4 fr hrep hbw A0 A1 A2 A3 hk hn hs hit1
        go_wp2
        (try simp only [Exit.inBlock, Exit.then])
        have hh : wr.heap[w.heap.size + 1]? = _ := HH.out
        refine bodyPost_ret (results_cell_row rfl _ _ (w.heap.size + 1) 25 _ (0, 0) _ (by rfl) (set5 hh) Tryz.underlying25 rfl (by kernel_rfl)) rfl ?_
        obtain ⟨hrep, hbw⟩ := HREP.out
        refine ⟨_, _, _, _, rfl, ?_, below_set5 (hB2.out.trans (hbw.mono hB2.out.size)) (by omega)⟩
        refine Rep.kept (fun b hlt hb => ⟨?_, other_set5 ?_⟩) _ _ hrep <;> (simp only [World.size_alloc] at hb; omega)
theorem copy_all (m : Nat) : CopySaid m := by
  induction m with
  | zero => intro t hm; have := JV.size_pos t; omega
  | succ m ih => exact copy_step m ih
theorem copy_c (t : JV) (cs : List Value) (w : World) (ok : Nat → Prop) (hr : Rep w ok t cs) (hb : t.bulk ≤ 1099511627776) : Calls Tryz.prog 12 #[.agg cs.toArray] w (CopyPost w t) :=
  copy_all t.size t (Nat.le_refl _) cs w ok hr hb
end Go.Proofs.YtnmojmmgkipjcaaGreatDoor
