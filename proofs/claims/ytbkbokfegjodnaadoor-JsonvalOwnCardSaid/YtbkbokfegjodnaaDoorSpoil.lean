/- The walk of spoil. Conditions: what the laws name. -/
import Derived.Test.YtbkbokfegjodnaaDoorMakeskit
namespace Go.Proofs.YtbkbokfegjodnaaDoor
open Go.RowKit
/-- the first loop: the items ahead of j are spoilt -/
structure SpAt (w0 : World) (X : Nat) (ns : List ByteArray) (is : List JV) (an ai : Option Addr) (cn ci : Nat) (Fs : List Nat) (j : Nat) (w : World) : Prop where
  turn : Turn (fun g => g ∈ Fs) w0 w
  c3 : w.cell? ⟨X, 3, none⟩ = some (.slice an ns.length cn)
  c4 : w.cell? ⟨X, 4, none⟩ = some (.slice ai is.length ci)
  f3 : w.frozen? ⟨X, 3, none⟩ = false
  f4 : w.frozen? ⟨X, 4, none⟩ = false
  nrow : Row w 9 1 (.slice an ns.length cn) ns.length (ns.map Value.string)
  irow : ∃ ys zs F2, ys.length = j * 5 ∧ Row w 28 5 (.slice ai is.length ci) is.length (ys ++ zs) ∧ RepsF w (is.drop j) zs F2 ∧ F2.Nodup ∧ ∀ b ∈ F2, b ∈ Fs
theorem SpAt.next {w0 w : World} {X : Nat} {ns : List ByteArray} {is : List JV} {an ai : Option Addr} {cn ci : Nat} {Fs : List Nat} {j : Nat} (h : SpAt w0 X ns is an ai cn ci Fs j w) (hj : j < is.length)
    (hX : X ∉ Fs) (hn : ∀ b ∈ ownA an, b ∉ Fs) (hi : ∀ b ∈ ownA ai, b ∉ Fs) :
    ∃ cs Ft, RepF w is[j] cs Ft ∧ Ft.Nodup ∧ (∃ g, ai = some ⟨g, 0, none⟩ ∧ Lie w g (j * 5) cs) ∧ ∀ w', Turn (fun g => g ∈ Ft) w w' → SpAt w0 X ns is an ai cn ci Fs (j + 1) w' := by
  obtain ⟨ys, zs, F2, hl, hrow, hreps, hnd, hsub⟩ := h.irow
  rw [List.drop_eq_getElem_cons hj, RepsF] at hreps
  obtain ⟨cs, zs', Ft, Fr, rfl, rfl, h1, h2⟩ := hreps
  rw [List.nodup_append] at hnd
  obtain ⟨n1, n2, n3⟩ := hnd
  have hcs := h1.len
  obtain ⟨a', c', hf, _, _, hf3⟩ := hrow.form
  injection hf with e1 _ e2
  subst e1; subst e2
  rcases hf3 with ⟨_, h0, _⟩ | ⟨g, hg0, _, hgl, hlie⟩
  · omega
  refine ⟨cs, Ft, h1, n1, ⟨g, hg0, fun i u hu => ?_⟩, fun w' ht => ?_⟩
  · have := hlie (j * 5 + i) u (by rw [← hl, List.getElem?_append_right (by omega), Nat.add_sub_cancel_left, List.getElem?_append_left (List.getElem?_eq_some_iff.1 hu).1]; exact hu)
    simpa using this
  · have k : ∀ b, b ∉ Fs → b < w.heap.size → w'.heap[b]? = w.heap[b]? := fun b hb hlt => ht.block b hlt (fun e => hb (hsub b (by simp [e])))
    have kX := k X hX (cell_lt h.c3)
    refine ⟨h.turn.trans (ht.weak (fun g hg => .inl (hsub g (by simp [hg])))), ?_, ?_, ?_, ?_, ?_, ys ++ cs, zs', Fr, by rw [List.length_append, hl, hcs]; omega, ?_, ?_, n2, fun b hb => hsub b (by simp [hb])⟩
    · rw [World.cell?_of_block (w := w) kX]; exact h.c3
    · rw [World.cell?_of_block (w := w) kX]; exact h.c4
    · rw [World.frozen?_of_block (w := w) kX]; exact h.f3
    · rw [World.frozen?_of_block (w := w) kX]; exact h.f4
    · exact h.nrow.same (fun g hg => k g (hn g (ownA_mem hg)) (h.nrow.lt hg))
    · rw [List.append_assoc]; exact hrow.same (fun g hg => k g (hi g (ownA_mem hg)) (hrow.lt hg))
    · exact RepsF.kept _ _ _ h2 (fun b hb => ht.block b (RepsF.lt _ _ _ h2 b hb) (fun e => n3 b e b hb rfl))
end Go.Proofs.YtbkbokfegjodnaaDoor
namespace Go.Proofs.YtbkbokfegjodnaaDoor
open Go.RowKit
def SpoilSaid (m : Nat) : Prop := ∀ (t : JV), t.size ≤ m → ∀ (cs : List Value) (F : List Nat) (w : World), RepF w t cs F → F.Nodup → t.bulk ≤ 1099511627776 →
    Calls Tryd.prog 22 #[.agg cs.toArray] w fun e w' => e = .returned (.tuple #[]) ∧ Turn (fun g => g ∈ F) w w'
set_option maxRecDepth 20000 in
set_option maxHeartbeats 8000000 in
theorem spoil_step (m : Nat) (ih : SpoilSaid m) : SpoilSaid (m + 1) := by
  intro t hmm cs F w hr hnd hbk
  cases t with
  | mk k n s ns is =>
  rw [repF_mk] at hr
  obtain ⟨_, _, _, an, cn, ai, ci, xs, Fs, rfl, hrn, hri, hrs, rfl⟩ := hr
  have hns := strs_len ns
  have hisl := JV.len_bulks is
  have hbk2 := hbk
  rw [JV.bulk] at hbk2
  have hn : ns.length ≤ 1099511627776 := by omega
  have hm : is.length ≤ 1099511627776 := by omega
  clear hns hisl hbk2
  have hb0 : Below w.heap.size w (w.alloc (.cells #[.int .i64 k, .int .i64 n, .string s, .slice an ns.length cn, .slice ai is.length ci] 28)) := (Below.refl _ _).alloc (Nat.le_refl _) _
  obtain ⟨⟨z0, z1, z2, z3, z4⟩, f0, f1, f2, f3, f4⟩ := cellsOf5 (heap_alloc_new w (.cells #[.int .i64 k, .int .i64 n, .string s, .slice an ns.length cn, .slice ai is.length ci] 28))
  rw [List.nodup_append] at hnd
  obtain ⟨_, hnd2, hd1⟩ := hnd
  rw [List.nodup_append] at hnd2
  obtain ⟨_, hnd3, hd2⟩ := hnd2
  have hX : w.heap.size ∉ Fs := fun h => by have := RepsF.lt _ _ _ hrs _ h; omega
  have hDn : ∀ b ∈ ownA an, b ∉ Fs := fun b hb hf => hd1 b hb b (by simp [hf]) rfl
  have hDi : ∀ b ∈ ownA ai, b ∉ Fs := fun b hb hf => hd2 b hb b hf rfl
  have h0 : SpAt w w.heap.size ns is an ai cn ci Fs 0 (w.alloc (.cells #[.int .i64 k, .int .i64 n, .string s, .slice an ns.length cn, .slice ai is.length ci] 28)) :=
    ⟨Turn.of_below hb0, z3, z4, f3, f4, hrn.below hb0, [], xs, Fs, rfl, hri.below hb0, hrs.below hb0, hnd3, fun _ h => h⟩
  have hLN : ∀ g, (Value.slice an ns.length cn).ownBlock = some g → g < w.heap.size := fun g hg => hrn.lt hg
  have hLI : ∀ g, (Value.slice ai is.length ci).ownBlock = some g → g < w.heap.size := fun g hg => hri.lt hg
  have HS := Lib.hid h0
  have IH := Lib.hid ih
  clear h0 ih hb0 hrn hri hrs z0 z1 z2 z3 z4 f0 f1 f2 f3 f4 hnd3 hd1 hd2
  go_enter Tryd.func22, Tryd.ntmps22
  go_wp2_with fail
  go_loopw [2] (fun i wr => ∃ j : Nat, j ≤ is.length ∧ i = .int .i64 j ∧ Hid (SpAt w w.heap.size ns is an ai cn ci Fs j wr)) (fun i _ => is.length - (intOf i).toNat)
  case atStart => exact ⟨0, by omega, rfl, HS⟩
  case round =>
    clear HS
    obtain ⟨j0, hj0, rfl, HS⟩ := hrel
    have c4 := HS.out.c4
    by_cases hlt0 : j0 < is.length
    · obtain ⟨ys, Ft, hrj, hndj, ⟨g, hg, hlie⟩, hnext⟩ := HS.out.next hlt0 hX hDn hDi
      have hszj : is[j0].size ≤ m := by have h1 := JV.size_le (List.getElem_mem hlt0); rw [JV.size] at hmm; omega
      have hbj : is[j0].bulk ≤ 1099511627776 := by have h1 := JV.bulk_le (List.getElem_mem hlt0); rw [JV.bulk] at hbk; omega
      obtain ⟨xan, xcn, xai, xci, rfl⟩ := hrj.form
      obtain ⟨l0, l1, l2, l3, l4⟩ := lie5 hlie
      have hcall := IH.out is[j0] hszj _ Ft wr hrj hndj hbj
      have HN := Lib.hid hnext
      generalize is[j0] = x at *
      subst hg
      clear hrj hlie hnext
      go_wp2_with fail
      clear l0 l1 l2 l3 l4 c4
      refine hcall.mono ?_; rintro e w1 ⟨rfl, ht⟩
      have HS2 := Lib.hid (HN.out w1 ht)
      clear hcall ht HN HS
      go_wp2
      refine ⟨⟨j0 + 1, by omega, by simp, HS2⟩, ?_⟩
      simp only [intOf]; omega
    · go_wp2
      clear c4
      have hh : ShAt w (fun g => g ∈ ownA an ++ (ownA ai ++ Fs)) w.heap.size ns.length is.length (.slice an ns.length cn) (.slice ai is.length ci) wr :=
        ⟨HS.out.turn.weak (fun g hg => by simp [hg]), Nat.le_refl _, HS.out.c3, HS.out.c4, HS.out.f3, HS.out.f4, ⟨_, HS.out.nrow⟩, HS.out.irow.elim (fun ys h => h.elim fun zs h => h.elim fun F2 h => ⟨_, h.2.1⟩),
          fun g hg => ⟨.inl (by simp [ownA_mem hg]), by have := hLN g hg; omega⟩, fun g hg => ⟨.inl (by simp [ownA_mem hg]), by have := hLI g hg; omega⟩⟩
      have H0 := Lib.hid hh
      clear hh HS IH hmm hbk hX hDn hDi hLN hLI
      go_loopw [3] (fun i wr => ∃ j : Nat, j ≤ is.length ∧ i = .int .i64 j ∧ Hid (ShAt w (fun g => g ∈ ownA an ++ (ownA ai ++ Fs)) w.heap.size ns.length is.length (.slice an ns.length cn) (.slice ai is.length ci) wr)) (fun i _ => is.length - (intOf i).toNat)
      case atStart => exact ⟨0, by omega, rfl, H0⟩
      case round =>
        clear H0
        obtain ⟨j, hj, rfl, H⟩ := hrel
        have c4 := H.out.c4
        by_cases hlt : j < is.length
        · obtain ⟨ys', hy'⟩ := H.out.irow
          obtain ⟨a0, p0, hf, hcap, hcm, hf3⟩ := hy'.form
          injection hf with e1 _ e2
          subst e1; subst e2
          rcases hf3 with ⟨_, h0, _⟩ | ⟨g, hg0, _, hgl, _⟩
          · omega
          subst hg0
          obtain ⟨u0, q0⟩ := hy'.cellAt (j * 5) (by omega)
          obtain ⟨u1, q1⟩ := hy'.cellAt (j * 5 + 1) (by omega)
          obtain ⟨u2, q2⟩ := hy'.cellAt (j * 5 + 2) (by omega)
          obtain ⟨u3, q3⟩ := hy'.cellAt (j * 5 + 3) (by omega)
          obtain ⟨u4, q4⟩ := hy'.cellAt (j * 5 + 4) (by omega)
          have fr := World.ownsRow.frozenAt hy'
          unfold maxLen at hcm
          clear hy'
          go_wp2
          refine ⟨⟨j + 1, by omega, by simp, Lib.hid (((((H.out.iset _ _).iset _ _).iset _ _).iset _ _).iset _ _)⟩, ?_⟩
          simp only [intOf]; omega
        · go_wp2
          clear c4
          have H0 := H
          clear H
          go_loopw [4] (fun i wr => ∃ j : Nat, j ≤ ns.length ∧ i = .int .i64 j ∧ Hid (ShAt w (fun g => g ∈ ownA an ++ (ownA ai ++ Fs)) w.heap.size ns.length is.length (.slice an ns.length cn) (.slice ai is.length ci) wr)) (fun i _ => ns.length - (intOf i).toNat)
          case atStart => exact ⟨0, by omega, rfl, H0⟩
          case round =>
            clear H0
            obtain ⟨j2, hj2, rfl, H⟩ := hrel
            have c3 := H.out.c3
            by_cases hlt2 : j2 < ns.length
            · obtain ⟨ys', hy'⟩ := H.out.nrow
              obtain ⟨a0, p0, hf, hcap, hcm, hf3⟩ := hy'.form
              injection hf with e1 _ e2
              subst e1; subst e2
              rcases hf3 with ⟨_, h0, _⟩ | ⟨g, hg0, _, hgl, _⟩
              · omega
              subst hg0
              obtain ⟨u0, q0⟩ := hy'.cellAt j2 (by omega)
              have fr := World.ownsRow.frozenAt hy'
              unfold maxLen at hcm
              clear hy'
              go_wp2
              refine ⟨⟨j2 + 1, by omega, by simp, Lib.hid (H.out.nset _ _)⟩, ?_⟩
              simp only [intOf]; omega
            · go_wp2
              clear c3
              have H0 := H
              clear H
              go_loopw [5] (fun i wr => ∃ j : Nat, j ≤ 16 ∧ i = .int .i64 j ∧ ∃ nv iv, Hid (ShAt w (fun g => g ∈ ownA an ++ (ownA ai ++ Fs)) w.heap.size (ns.length + j) (is.length + j) nv iv wr)) (fun i _ => 16 - (intOf i).toNat)
              case atStart => exact ⟨0, by omega, rfl, _, _, H0⟩
              case round =>
                clear H0
                obtain ⟨j3, hj3, rfl, nv, iv, H⟩ := hrel
                have c3 := H.out.c3
                have c4 := H.out.c4
                by_cases hlt3 : j3 < 16
                · obtain ⟨ys', hy'⟩ := H.out.irow
                  go_wp2_with (first
                    | (at_builtin; refine wpList_app valTy rfl _ _ rfl iv (is.length + j3) ys' rfl (hy'.below ((Below.refl _ _).alloc (Nat.le_refl _) _)) ⟨wr.heap.size, 0, none⟩ 1 1 [.int .i64 9, .int .i64 0, .string ⟨#[]⟩, .slice none 0 0, .slice none 0 0] rfl rfl (World.news_of_block (heap_alloc_new wr _)) (by simp [Value.oneCell']) (by unfold maxLen; omega) (by omega) ?_
                       intro iv' w1 hr1 hu1
                       obtain ⟨ga, gc, hv1, _⟩ := hr1.form
                       subst hv1
                       obtain ⟨k4, g4⟩ := H.out.iup ((Below.refl _ _).alloc (Nat.le_refl _) _) hu1
                       have H2 := Lib.hid (H.out.iapp ((Below.refl _ _).alloc (Nat.le_refl _) _) hu1 hr1)
                       have c3' := H2.out.c3
                       obtain ⟨zs', hz'⟩ := H2.out.nrow
                       have hal := heap_alloc_new (w1.setCell ⟨w.heap.size, 4, none⟩ (.slice ga (is.length + j3 + 1) gc)) (.cells #[.string ⟨#[63, 63]⟩] 9)
                       rw [show (w1.setCell ⟨w.heap.size, 4, none⟩ (.slice ga (is.length + j3 + 1) gc)).heap.size = w1.heap.size by simp] at hal
                       clear hu1 hr1 H c3 c4)
                    | (at_builtin; refine wpList_app strTy rfl _ _ rfl nv (ns.length + j3) zs' rfl (hz'.below ((Below.refl _ _).alloc (Nat.le_refl _) _)) ⟨w1.heap.size, 0, none⟩ 1 1 [.string ⟨#[63, 63]⟩] rfl rfl (World.news_of_block hal) (by simp [Value.oneCell']) (by unfold maxLen; omega) (by omega) ?_
                       intro nv' w2 hr2 hu2
                       obtain ⟨gb, gd, hv2, _⟩ := hr2.form
                       subst hv2
                       obtain ⟨k3, g3⟩ := H2.out.nup ((Below.refl _ _).alloc (Nat.le_refl _) _) hu2
                       have H3 := Lib.hid (H2.out.napp ((Below.refl _ _).alloc (Nat.le_refl _) _) hu2 hr2)
                       clear hu2 hr2 H2))
                  refine ⟨⟨j3 + 1, by omega, by simp, _, _, Lib.hid H3.out⟩, ?_⟩
                  simp only [intOf]; omega
                · go_wp2
                  exact bodyPost_end (results_none rfl _ _ _) rfl ⟨rfl, H.out.turn⟩
theorem spoil_all : ∀ m, SpoilSaid m
  | 0 => fun t ht => by cases t with | mk k n s ns is => rw [JV.size] at ht; omega
  | m + 1 => spoil_step m (spoil_all m)
theorem spoil_c (t : JV) (cs : List Value) (F : List Nat) (w : World) (hr : RepF w t cs F) (hn : F.Nodup) (hb : t.bulk ≤ 1099511627776) :
    Calls Tryd.prog 22 #[.agg cs.toArray] w fun e w' => e = .returned (.tuple #[]) ∧ Turn (fun g => g ∈ F) w w' :=
  spoil_all t.size t (Nat.le_refl _) cs F w hr hn hb
end Go.Proofs.YtbkbokfegjodnaaDoor
