/- The walk of under: all values under a value, each as it stands. Conditions: each list is a row of its own. -/
import Derived.Test.YtbkbokfegjodnaaDoorUnderk
namespace Go.Proofs.YtbkbokfegjodnaaDoor
open Go.RowKit
def UnderSaid (m : Nat) : Prop := ∀ (t : JV), t.size ≤ m → ∀ (cs : List Value) (F : List Nat) (w : World), RepF w t cs F → t.bulk ≤ 1099511627776 →
    Calls Tryd.prog 50 #[.agg cs.toArray] w (UnderPost w t F)
set_option maxRecDepth 20000 in
set_option maxHeartbeats 8000000 in
theorem under_step (m : Nat) (ih : UnderSaid m) : UnderSaid (m + 1) := by
  intro t hmm cs F w hr hbk
  cases t with
  | mk k n s ns is =>
  have hFl := RepF.lt _ _ _ hr
  rw [repF_mk] at hr
  obtain ⟨_, _, _, an, cn, ai, ci, xs, Fs, rfl, hrn, hri, hrs, rfl⟩ := hr
  have hns := strs_len ns
  have hisl := JV.len_bulks is
  have hbk2 := hbk
  rw [JV.bulk] at hbk2
  have hn : ns.length ≤ 1099511627776 := by omega
  have hm : is.length ≤ 1099511627776 := by omega
  have hbl : 1 + JV.bulks is ≤ 1099511627776 := by omega
  clear hns hisl hbk2
  have hb0 : Below w.heap.size w (w.alloc (.cells #[.int .i64 k, .int .i64 n, .string s, .slice an ns.length cn, .slice ai is.length ci] 28)) := (Below.refl _ _).alloc (Nat.le_refl _) _
  obtain ⟨⟨z0, z1, z2, z3, z4⟩, _⟩ := cellsOf5 (heap_alloc_new w (.cells #[.int .i64 k, .int .i64 n, .string s, .slice an ns.length cn, .slice ai is.length ci] 28))
  have hb1 := (Below.refl (w.alloc (.cells #[.int .i64 k, .int .i64 n, .string s, .slice an ns.length cn, .slice ai is.length ci] 28)).heap.size _).alloc (Nat.le_refl _) (.cells #[.int .i64 k, .int .i64 n, .string s, .slice an ns.length cn, .slice ai is.length ci] 28)
  have hb2 := below_trans hb0 hb1
  have hrow0 : Row ((w.alloc (.cells #[.int .i64 k, .int .i64 n, .string s, .slice an ns.length cn, .slice ai is.length ci] 28)).alloc (.cells #[.int .i64 k, .int .i64 n, .string s, .slice an ns.length cn, .slice ai is.length ci] 28)) 28 5 (.slice (some ⟨(w.alloc (.cells #[.int .i64 k, .int .i64 n, .string s, .slice an ns.length cn, .slice ai is.length ci] 28)).heap.size, 0, none⟩) 1 1) 1 [.int .i64 k, .int .i64 n, .string s, .slice an ns.length cn, .slice ai is.length ci] :=
    World.ownsRow_lit _ _ 1 (Nat.zero_le _) (by unfold maxLen; omega) (by rfl)
  simp only [World.size_alloc] at hrow0
  have h0 : UnAt w w.heap.size ns is an ai cn ci xs Fs 0 (some ⟨w.heap.size + 1, 0, none⟩) 1 [⟨k, n, s, an, ns.length, cn, ai, is.length, ci⟩] ((w.alloc (.cells #[.int .i64 k, .int .i64 n, .string s, .slice an ns.length cn, .slice ai is.length ci] 28)).alloc (.cells #[.int .i64 k, .int .i64 n, .string s, .slice an ns.length cn, .slice ai is.length ci] 28)) :=
    ⟨hb2, Nat.le_refl _, cell_below hb1 z4, hrow0, fun b hb => by simp only [ownA, List.mem_cons, List.not_mem_nil, or_false] at hb; subst hb; exact ⟨by omega, by omega⟩,
      fun h hh => by obtain rfl := List.mem_singleton.1 hh; exact ⟨⟨_, hrn.below hb2⟩, ⟨_, hri.below hb2⟩, hn, hm⟩, by simp, [], xs, [], Fs, rfl, rfl, rfl, hrs, by simp [Hd.own]⟩
  have HS := Lib.hid h0
  have HRI := Lib.hid hri
  have IH := Lib.hid ih
  have HFL := Lib.hid hFl
  clear h0 ih hb0 hb1 hb2 hrow0 hrn hri hrs hFl z0 z1 z2 z3 z4
  go_enter Tryd.func50, Tryd.ntmps50
  go_wp2_with fail
  go_loopw [3, 4] (fun l i wr => ∃ j : Nat, j ≤ is.length ∧ i = .int .i64 j ∧ ∃ a c hs, 0 < List.length hs ∧ l = .slice a (List.length hs) c ∧ Hid (UnAt w w.heap.size ns is an ai cn ci xs Fs j a c hs wr)) (fun l i _ => is.length - (intOf i).toNat)
  case atStart => exact ⟨0, by omega, rfl, _, _, _, by simp, rfl, HS⟩
  case round =>
    clear HS
    obtain ⟨j, hj, rfl, a, c, hs, hpos, rfl, H⟩ := hrel
    have c4 := H.out.c4
    by_cases hlt : j < is.length
    · obtain ⟨ys, Ft, hrj, ⟨g, hg, hlie⟩, hnext⟩ := H.out.next hlt HRI.out (cell_lt H.out.c4) HFL.out
      have hszj : is[j].size ≤ m := by have h1 := JV.size_le (List.getElem_mem hlt); rw [JV.size] at hmm; omega
      have hbj : is[j].bulk ≤ 1099511627776 := by have h1 := JV.bulk_le (List.getElem_mem hlt); omega
      have hlen := H.out.len
      have hb3 := bulks_take_le is (j + 1)
      rw [bulks_takeS hlt] at hb3
      obtain ⟨xan, xcn, xai, xci, rfl⟩ := hrj.form
      obtain ⟨l0, l1, l2, l3, l4⟩ := lie5 hlie
      have hcall := IH.out is[j] hszj _ Ft wr hrj hbj
      have HN := Lib.hid hnext
      generalize is[j] = x at *
      subst hg
      clear hrj hlie hnext
      go_wp2_with fail
      clear l0 l1 l2 l3 l4 c4
      refine hcall.mono ?_; rintro e w1 ⟨b1, d1, gs, rfl, hr1, hf1, ho1, hk1, hl1, hp1, hbl1⟩
      obtain ⟨b2, d2, hf, _, _, hf3⟩ := hr1.form
      injection hf with e1 _ e2
      subst e1; subst e2
      rcases hf3 with ⟨_, h0, _⟩ | ⟨g1, hg1, _, _, _⟩
      · omega
      subst hg1
      have HNW := Lib.hid (World.ownsRow.cells hr1 (g := g1) rfl)
      have HRV := Lib.hid (H.out.row.below hbl1)
      have HK := Lib.hid (And.intro ho1 (And.intro hk1 hbl1))
      clear hcall hr1 hf1 ho1 hk1 hbl1
      go_wp2_with (at_builtin; refine wpList_app valTy rfl _ _ rfl _ hs.length (hs.flatMap Hd.cells) rfl HRV.out ⟨g1, 0, none⟩ gs.length d1 (gs.flatMap Hd.cells) rfl (Hd.len gs) HNW.out (Hd.one gs) (by unfold maxLen; omega) (by omega) ?_
                   intro v' w2 hr2 hu2
                   obtain ⟨ga, gc, hv2, _⟩ := hr2.form
                   subst hv2
                   have HU := Lib.hid (HN.out w1 w2 gs ga gc HK.out.2.2 HK.out.1 HK.out.2.1 hl1 hu2 hr2)
                   clear hu2 hr2 HRV HNW HN H)
      refine ⟨⟨j + 1, by omega, by simp, ga, gc, hs ++ gs, by rw [List.length_append]; omega, by rw [List.length_append], HU⟩, ?_⟩
      simp only [intOf]; omega
    · obtain rfl : j = is.length := by omega
      go_wp2
      go_ret
      obtain ⟨ys, zs, F1, F2, _, _, hF, hreps, hown⟩ := H.out.rest
      rw [List.drop_length, RepsF] at hreps
      obtain ⟨_, rfl⟩ := hreps
      have hlen := H.out.len
      rw [List.take_length] at hlen
      refine ⟨_, _, hs, rfl, H.out.row, fun b hb => (H.out.fr b hb).1, by rw [hown, hF, List.append_nil], H.out.ok, by rw [JV.bulk]; omega, hpos, H.out.below⟩
theorem under_all : ∀ m, UnderSaid m
  | 0 => fun t ht => by cases t with | mk k n s ns is => rw [JV.size] at ht; omega
  | m + 1 => under_step m (under_all m)
theorem under_c (t : JV) (cs : List Value) (F : List Nat) (w : World) (hr : RepF w t cs F) (hb : t.bulk ≤ 1099511627776) : Calls Tryd.prog 50 #[.agg cs.toArray] w (UnderPost w t F) :=
  under_all t.size t (Nat.le_refl _) cs F w hr hb
end Go.Proofs.YtbkbokfegjodnaaDoor
