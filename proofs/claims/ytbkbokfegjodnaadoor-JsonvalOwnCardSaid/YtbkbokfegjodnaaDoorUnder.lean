/- The walk of under. Conditions: what the laws name. -/
import Derived.Test.YtbkbokfegjodnaaDoorSpoil
namespace Go.Proofs.YtbkbokfegjodnaaDoor
open Go.RowKit
/-- the five cells of a value as it stands -/
structure Hd where
  k : Int
  n : Int
  s : ByteArray
  an : Option Addr
  nn : Nat
  cn : Nat
  ai : Option Addr
  mm : Nat
  ci : Nat
def Hd.cells (h : Hd) : List Value := [.int .i64 h.k, .int .i64 h.n, .string h.s, .slice h.an h.nn h.cn, .slice h.ai h.mm h.ci]
def Hd.own (h : Hd) : List Nat := ownA h.an ++ ownA h.ai
/-- its two lists are rows -/
def Hd.ok (w : World) (h : Hd) : Prop := (∃ xs, Row w 9 1 (.slice h.an h.nn h.cn) h.nn xs) ∧ (∃ ys, Row w 28 5 (.slice h.ai h.mm h.ci) h.mm ys) ∧ h.nn ≤ 1099511627776 ∧ h.mm ≤ 1099511627776
theorem Hd.ok.below {w w' : World} {h : Hd} (k : h.ok w) (hb : Below w.heap.size w w') : h.ok w' :=
  ⟨k.1.elim fun xs hx => ⟨xs, hx.below hb⟩, k.2.1.elim fun ys hy => ⟨ys, hy.below hb⟩, k.2.2⟩
theorem Hd.len (hs : List Hd) : (hs.flatMap Hd.cells).length = hs.length * 5 := by
  induction hs with
  | nil => rfl
  | cons h r ih => rw [List.flatMap_cons, List.length_append, ih, List.length_cons]; simp only [Hd.cells, List.length_cons, List.length_nil]; omega
theorem Hd.one (hs : List Hd) : ∀ u ∈ hs.flatMap Hd.cells, u.oneCell' = true := by
  intro u hu
  obtain ⟨h, _, hm⟩ := List.mem_flatMap.1 hu
  simp only [Hd.cells, List.mem_cons, List.not_mem_nil, or_false] at hm
  rcases hm with rfl | rfl | rfl | rfl | rfl <;> rfl
/-- what under answers -/
def UnderPost (w : World) (t : JV) (F : List Nat) (e : Ending) (w' : World) : Prop := ∃ a c hs, e = .returned (.slice a (List.length hs) c) ∧ Row w' 28 5 (.slice a (List.length hs) c) (List.length hs) (List.flatMap Hd.cells hs) ∧ (∀ b ∈ ownA a, w.heap.size ≤ b) ∧
  List.flatMap Hd.own hs = F ∧ (∀ h ∈ hs, Hd.ok w' h) ∧ List.length hs ≤ t.bulk ∧ 0 < List.length hs ∧ Below w.heap.size w w'
/-- the items ahead of j are gathered in v -/
structure UnAt (w0 : World) (X : Nat) (ns : List ByteArray) (is : List JV) (an ai : Option Addr) (cn ci : Nat) (xs : List Value) (Fs : List Nat) (j : Nat) (a : Option Addr) (c : Nat) (hs : List Hd) (w : World) : Prop where
  below : Below w0.heap.size w0 w
  hX : w0.heap.size ≤ X
  c4 : w.cell? ⟨X, 4, none⟩ = some (.slice ai is.length ci)
  row : Row w 28 5 (.slice a hs.length c) hs.length (hs.flatMap Hd.cells)
  fr : ∀ b ∈ ownA a, w0.heap.size ≤ b ∧ b ≠ X
  ok : ∀ h ∈ hs, h.ok w
  len : hs.length ≤ 1 + JV.bulks (is.take j)
  rest : ∃ ys zs F1 F2, xs = ys ++ zs ∧ ys.length = j * 5 ∧ Fs = F1 ++ F2 ∧ RepsF w0 (is.drop j) zs F2 ∧ hs.flatMap Hd.own = ownA an ++ (ownA ai ++ F1)
theorem bulks_takeS {is : List JV} {j : Nat} (h : j < is.length) : JV.bulks (is.take (j + 1)) = JV.bulks (is.take j) + is[j].bulk := by
  rw [List.take_succ_eq_append_getElem h]
  have app : ∀ l r : List JV, JV.bulks (l ++ r) = JV.bulks l + JV.bulks r := by
    intro l r
    induction l with
    | nil => simp [JV.bulks]
    | cons x l ih => rw [List.cons_append, JV.bulks, JV.bulks, ih]; omega
  rw [app, JV.bulks, JV.bulks]
  omega
theorem bulks_take_le (is : List JV) (j : Nat) : JV.bulks (is.take j) ≤ JV.bulks is := by
  induction is generalizing j with
  | nil => simp
  | cons x r ih => cases j with
    | zero => simp [JV.bulks]
    | succ j => rw [List.take_succ_cons, JV.bulks, JV.bulks]; have := ih j; omega
theorem Hd.ok.upd {w w' : World} {r r' : Option Nat} {h : Hd} (k : h.ok w) (hu : Upd w w' r r') (hn : ∀ b ∈ h.own, r ≠ some b) : h.ok w' := by
  obtain ⟨⟨xs, hx⟩, ⟨ys, hy⟩, hl⟩ := k
  exact ⟨⟨xs, hx.same (fun g hg => hu.block (hx.lt hg) (hn g (by simp [Hd.own, ownA_mem hg])))⟩, ⟨ys, hy.same (fun g hg => hu.block (hy.lt hg) (hn g (by simp [Hd.own, ownA_mem hg])))⟩, hl⟩
/-- the next item -/
theorem UnAt.next {w0 w : World} {X : Nat} {ns : List ByteArray} {is : List JV} {an ai : Option Addr} {cn ci : Nat} {xs : List Value} {Fs : List Nat} {j : Nat} {a : Option Addr} {c : Nat} {hs : List Hd}
    (h : UnAt w0 X ns is an ai cn ci xs Fs j a c hs w) (hj : j < is.length) (hrow : Row w0 28 5 (.slice ai is.length ci) is.length xs) (hXw : X < w.heap.size) (hFl : ∀ b ∈ ownA an ++ (ownA ai ++ Fs), b < w0.heap.size) :
    ∃ cs Ft, RepF w is[j] cs Ft ∧ (∃ g, ai = some ⟨g, 0, none⟩ ∧ Lie w g (j * 5) cs) ∧ ∀ (w1 w2 : World) (gs : List Hd) (a' : Option Addr) (c' : Nat), Below w.heap.size w w1 → gs.flatMap Hd.own = Ft → (∀ h ∈ gs, h.ok w1) → gs.length ≤ is[j].bulk →
      Upd w1 w2 (Value.slice a hs.length c).ownBlock (Value.slice a' (hs.length + gs.length) c').ownBlock → Row w2 28 5 (.slice a' (hs.length + gs.length) c') (hs.length + gs.length) (hs.flatMap Hd.cells ++ gs.flatMap Hd.cells) →
      UnAt w0 X ns is an ai cn ci xs Fs (j + 1) a' c' (hs ++ gs) w2 := by
  obtain ⟨ys, zs, F1, F2, rfl, hl, rfl, hreps, hown⟩ := h.rest
  rw [List.drop_eq_getElem_cons hj, RepsF] at hreps
  obtain ⟨cs, zs', Ft, Fr, rfl, rfl, h1, h2⟩ := hreps
  have hcs := h1.len
  have hrw := hrow.below h.below
  obtain ⟨a0, c0, hf, _, _, hf3⟩ := hrw.form
  injection hf with e1 _ e2
  subst e1; subst e2
  rcases hf3 with ⟨_, h0, _⟩ | ⟨g, hg0, _, hgl, hlie⟩
  · omega
  refine ⟨cs, Ft, h1.below h.below, ⟨g, hg0, fun i u hu => ?_⟩, fun w1 w2 gs a' c' hb hgo hgk hgl2 hu hr => ?_⟩
  · have := hlie (j * 5 + i) u (by rw [← hl, List.getElem?_append_right (by omega), Nat.add_sub_cancel_left, List.getElem?_append_left (List.getElem?_eq_some_iff.1 hu).1]; exact hu)
    simpa using this
  · have hs1 := hb.size
    have hs0 := h.below.size
    have hne : (Value.slice a hs.length c).ownBlock ≠ some X := fun e => (h.fr X (ownA_mem e)).2 rfl
    have hok : ∀ h ∈ hs ++ gs, h.ok w2 := fun x hx => by
      have k : x.ok w1 := by
        rcases List.mem_append.1 hx with hx | hx
        · exact (h.ok x hx).below hb
        · exact hgk x hx
      refine k.upd hu (fun b hb e => ?_)
      have h1 := (h.fr b (ownA_mem e)).1
      have h2 : b ∈ (hs ++ gs).flatMap Hd.own := List.mem_flatMap.2 ⟨x, hx, hb⟩
      rw [List.flatMap_append, hown, hgo] at h2
      have := hFl b (by simp only [List.mem_append] at h2 ⊢; rcases h2 with (h2 | h2 | h2) | h2 <;> simp [h2])
      omega
    refine ⟨(h.below.trans (hb.mono hs0)).trans (hu.below (Nat.le_trans hs0 hs1) (fun g hg => (h.fr g (ownA_mem hg)).1)), h.hX, hu.cell (cell_below hb h.c4) hne, by rw [List.length_append, List.flatMap_append]; exact hr, fun b hm => ?_, hok, ?_, ys ++ cs, zs', F1 ++ Ft, Fr, by simp, by rw [List.length_append, hl, hcs]; omega, by simp, h2, by rw [List.flatMap_append, hown, hgo]; simp⟩
    · have hm' := ownA_elim (n := hs.length + gs.length) (c := c') hm
      rcases hu.own with e | ⟨q, e, hq⟩
      · exact h.fr b (ownA_mem (by rw [← e]; exact hm'))
      · rw [e] at hm'; injection hm' with hm'; subst hm'; exact ⟨by omega, by omega⟩
    · rw [List.length_append, bulks_takeS hj]
      have := h.len
      omega
end Go.Proofs.YtbkbokfegjodnaaDoor
namespace Go.Proofs.YtbkbokfegjodnaaDoor
open Go.RowKit
def UnderSaid (m : Nat) : Prop := ∀ (t : JV), t.size ≤ m → ∀ (cs : List Value) (F : List Nat) (w : World), RepF w t cs F → t.bulk ≤ 1099511627776 →
    Calls Tryd.prog 50 #[.agg cs.toArray] w (UnderPost w t F)
set_option maxRecDepth 20000 in
set_option maxHeartbeats 8000000 in
theorem under_step (m : Nat) (ih : UnderSaid m) : UnderSaid (m + 1) := by
  intro t hmm cs F w hr hbk
  cases t with
  | mk k n s ns is =>
  have hFl := RepF.lt _ _ _ hr
  rw [repF_mk] at hr
  obtain ⟨_, _, _, an, cn, ai, ci, xs, Fs, rfl, hrn, hri, hrs, rfl⟩ := hr
  have hns := strs_len ns
  have hisl := JV.len_bulks is
  have hbk2 := hbk
  rw [JV.bulk] at hbk2
  have hn : ns.length ≤ 1099511627776 := by omega
  have hm : is.length ≤ 1099511627776 := by omega
  have hbl : 1 + JV.bulks is ≤ 1099511627776 := by omega
  clear hns hisl hbk2
  have hb0 : Below w.heap.size w (w.alloc (.cells #[.int .i64 k, .int .i64 n, .string s, .slice an ns.length cn, .slice ai is.length ci] 28)) := (Below.refl _ _).alloc (Nat.le_refl _) _
  obtain ⟨⟨z0, z1, z2, z3, z4⟩, _⟩ := cellsOf5 (heap_alloc_new w (.cells #[.int .i64 k, .int .i64 n, .string s, .slice an ns.length cn, .slice ai is.length ci] 28))
  have hb1 := (Below.refl (w.alloc (.cells #[.int .i64 k, .int .i64 n, .string s, .slice an ns.length cn, .slice ai is.length ci] 28)).heap.size _).alloc (Nat.le_refl _) (.cells #[.int .i64 k, .int .i64 n, .string s, .slice an ns.length cn, .slice ai is.length ci] 28)
  have hb2 := below_trans hb0 hb1
  have hrow0 : Row ((w.alloc (.cells #[.int .i64 k, .int .i64 n, .string s, .slice an ns.length cn, .slice ai is.length ci] 28)).alloc (.cells #[.int .i64 k, .int .i64 n, .string s, .slice an ns.length cn, .slice ai is.length ci] 28)) 28 5 (.slice (some ⟨(w.alloc (.cells #[.int .i64 k, .int .i64 n, .string s, .slice an ns.length cn, .slice ai is.length ci] 28)).heap.size, 0, none⟩) 1 1) 1 [.int .i64 k, .int .i64 n, .string s, .slice an ns.length cn, .slice ai is.length ci] :=
    World.ownsRow_lit _ _ 1 (Nat.zero_le _) (by unfold maxLen; omega) (by rfl)
  simp only [World.size_alloc] at hrow0
  have h0 : UnAt w w.heap.size ns is an ai cn ci xs Fs 0 (some ⟨w.heap.size + 1, 0, none⟩) 1 [⟨k, n, s, an, ns.length, cn, ai, is.length, ci⟩] ((w.alloc (.cells #[.int .i64 k, .int .i64 n, .string s, .slice an ns.length cn, .slice ai is.length ci] 28)).alloc (.cells #[.int .i64 k, .int .i64 n, .string s, .slice an ns.length cn, .slice ai is.length ci] 28)) :=
    ⟨hb2, Nat.le_refl _, cell_below hb1 z4, hrow0, fun b hb => by simp only [ownA, List.mem_cons, List.not_mem_nil, or_false] at hb; subst hb; exact ⟨by omega, by omega⟩,
      fun h hh => by obtain rfl := List.mem_singleton.1 hh; exact ⟨⟨_, hrn.below hb2⟩, ⟨_, hri.below hb2⟩, hn, hm⟩, by simp, [], xs, [], Fs, rfl, rfl, rfl, hrs, by simp [Hd.own]⟩
  have HS := Lib.hid h0
  have HRI := Lib.hid hri
  have IH := Lib.hid ih
  have HFL := Lib.hid hFl
  clear h0 ih hb0 hb1 hb2 hrow0 hrn hri hrs hFl z0 z1 z2 z3 z4
  go_enter Tryd.func50, Tryd.ntmps50
  go_wp2_with fail
  go_loopw [3, 4] (fun l i wr => ∃ j : Nat, j ≤ is.length ∧ i = .int .i64 j ∧ ∃ a c hs, 0 < List.length hs ∧ l = .slice a (List.length hs) c ∧ Hid (UnAt w w.heap.size ns is an ai cn ci xs Fs j a c hs wr)) (fun l i _ => is.length - (intOf i).toNat)
  case atStart => exact ⟨0, by omega, rfl, _, _, _, by simp, rfl, HS⟩
  case round =>
    clear HS
    obtain ⟨j, hj, rfl, a, c, hs, hpos, rfl, H⟩ := hrel
    have c4 := H.out.c4
    by_cases hlt : j < is.length
    · obtain ⟨ys, Ft, hrj, ⟨g, hg, hlie⟩, hnext⟩ := H.out.next hlt HRI.out (cell_lt H.out.c4) HFL.out
      have hszj : is[j].size ≤ m := by have h1 := JV.size_le (List.getElem_mem hlt); rw [JV.size] at hmm; omega
      have hbj : is[j].bulk ≤ 1099511627776 := by have h1 := JV.bulk_le (List.getElem_mem hlt); omega
      have hlen := H.out.len
      have hb3 := bulks_take_le is (j + 1)
      rw [bulks_takeS hlt] at hb3
      obtain ⟨xan, xcn, xai, xci, rfl⟩ := hrj.form
      obtain ⟨l0, l1, l2, l3, l4⟩ := lie5 hlie
      have hcall := IH.out is[j] hszj _ Ft wr hrj hbj
      have HN := Lib.hid hnext
      generalize is[j] = x at *
      subst hg
      clear hrj hlie hnext
      go_wp2_with fail
      clear l0 l1 l2 l3 l4 c4
      refine hcall.mono ?_; rintro e w1 ⟨b1, d1, gs, rfl, hr1, hf1, ho1, hk1, hl1, hp1, hbl1⟩
      obtain ⟨b2, d2, hf, _, _, hf3⟩ := hr1.form
      injection hf with e1 _ e2
      subst e1; subst e2
      rcases hf3 with ⟨_, h0, _⟩ | ⟨g1, hg1, _, _, _⟩
      · omega
      subst hg1
      have HNW := Lib.hid (World.ownsRow.cells hr1 (g := g1) rfl)
      have HRV := Lib.hid (H.out.row.below hbl1)
      have HK := Lib.hid (And.intro ho1 (And.intro hk1 hbl1))
      clear hcall hr1 hf1 ho1 hk1 hbl1
      go_wp2_with (at_builtin; refine wpList_app valTy rfl _ _ rfl _ hs.length (hs.flatMap Hd.cells) rfl HRV.out ⟨g1, 0, none⟩ gs.length d1 (gs.flatMap Hd.cells) rfl (Hd.len gs) HNW.out (Hd.one gs) (by unfold maxLen; omega) (by omega) ?_
                   intro v' w2 hr2 hu2
                   obtain ⟨ga, gc, hv2, _⟩ := hr2.form
                   subst hv2
                   have HU := Lib.hid (HN.out w1 w2 gs ga gc HK.out.2.2 HK.out.1 HK.out.2.1 hl1 hu2 hr2)
                   clear hu2 hr2 HRV HNW HN H)
      refine ⟨⟨j + 1, by omega, by simp, ga, gc, hs ++ gs, by rw [List.length_append]; omega, by rw [List.length_append], HU⟩, ?_⟩
      simp only [intOf]; omega
    · obtain rfl : j = is.length := by omega
      go_wp2
      go_ret
      obtain ⟨ys, zs, F1, F2, _, _, hF, hreps, hown⟩ := H.out.rest
      rw [List.drop_length, RepsF] at hreps
      obtain ⟨_, rfl⟩ := hreps
      have hlen := H.out.len
      rw [List.take_length] at hlen
      refine ⟨_, _, hs, rfl, H.out.row, fun b hb => (H.out.fr b hb).1, by rw [hown, hF, List.append_nil], H.out.ok, by rw [JV.bulk]; omega, hpos, H.out.below⟩
theorem under_all : ∀ m, UnderSaid m
  | 0 => fun t ht => by cases t with | mk k n s ns is => rw [JV.size] at ht; omega
  | m + 1 => under_step m (under_all m)
theorem under_c (t : JV) (cs : List Value) (F : List Nat) (w : World) (hr : RepF w t cs F) (hb : t.bulk ≤ 1099511627776) : Calls Tryd.prog 50 #[.agg cs.toArray] w (UnderPost w t F) :=
  under_all t.size t (Nat.le_refl _) cs F w hr hb
end Go.Proofs.YtbkbokfegjodnaaDoor
