/- The walks of Ask, Bye, Out, Open, Why (the client's). Conditions: what goes out is shorter than 2 to the 38, an ask's number below 4000000000. -/
import Derived.Test.YtkpickojeghppaaDoorWcl
import Derived.Deep.DeepMust
namespace Go.Proofs.YtkpickojeghppaaDoor
open Go.RowKit
structure Cl.Ok (s : Cl) : Prop where
  id : s.id ≤ 4000000000
  asked : s.asked.length ≤ 16
def Cl.long (s : Cl) (body : ByteArray) : Bool := !decide (24 + body.size + (if s.sums then 4 else 0) ≤ 131072)
def Cl.askM (s : Cl) (body : ByteArray) : WMsg := ⟨s.id, 0, 3, body, false⟩
def Cl.ask (s : Cl) (body : ByteArray) : Cl × Nat × Nat :=
  if (s.closed || s.ending) = true then (s, 0, 285) else if 16 ≤ s.asked.length then (s, 0, 5) else if s.long body = true then (s, 0, 1)
  else (({ s with id := s.id + 1, asked := s.asked ++ [s.id] } : Cl).send (s.askM body), s.id, packE ((s.askM body).summed s.sums))
def Cl.askV (r : Cl × Nat × Nat) : Value := .tuple #[.int .u32 (r.2.1 : Int), .int .i64 (r.2.2 : Int)]
def Cl.byeM (s : Cl) : WMsg := ⟨s.id, 0, 5, ⟨#[]⟩, false⟩
def Cl.part (s : Cl) : Cl × Nat :=
  if (s.closed || s.ending) = true then (s, 285) else (({ s with bye := s.id, ending := true, id := s.id + 1 } : Cl).send s.byeM, packE (s.byeM.summed s.sums))
theorem numTy : SlTy Tryd.prog 76 25 (.int .u32 0) 1 4 := ⟨by kernel_rfl, by kernel_rfl, by kernel_rfl, by decide⟩
theorem numsV_append (a b : List Nat) : numsV (a ++ b) = numsV a ++ numsV b := by simp [numsV]
/-- what is asked has grown -/
theorem cl_grown {w : World} {R : Nat} {V : CV} {s s2 : Cl} (h : CK.At w R V s) {q' : Value} {w1 : World} (hu : Upd w w1 V.q.ownBlock q'.ownBlock) (hs : Slab w1 1 q' s2.asked.length (numsV s2.asked))
    (hc : ((clCells R V s).setIfInBounds 8 q') = clCells R { V with q := q' } s2) (hi : s2.closed = s.closed) (hin : s2.inp = s.inp) (ho : s2.out = s.out) (hr : s2.came = s.came) :
    CK.At (w1.setCell ⟨R, 8, none⟩ q') R { V with q := q' } s2 ∧ Turn (CK.F R V s) w (w1.setCell ⟨R, 8, none⟩ q') ∧ ∀ g, CK.F R { V with q := q' } s2 g → CK.F R V s g ∨ w.heap.size ≤ g := by
  have hR := h.ltR
  have hb1 : w1.heap[R]? = some (.cells (clCells R V s) 118 (0, 0)) := (hu.block hR (h.nR _ (.tail _ (.tail _ (.head _))))).trans h.blk
  have hb2 := heap_setCell_same w1 R 8 _ _ q' hb1
  rw [hc] at hb2
  have hn : ∀ g, q'.ownBlock = some g → V.q.ownBlock = some g ∨ w.heap.size ≤ g := fun g hg => by
    rcases hu.own with e | ⟨q, e, hq⟩
    · left; rw [← e]; exact hg
    · right; rw [e] at hg; rw [← Option.some.inj hg]; exact hq
  have hne : ∀ g, q'.ownBlock = some g → g ≠ R := fun g hg e => by
    subst e
    rcases hn g hg with e | e
    · exact h.nR _ (.tail _ (.tail _ (.head _))) e
    · omega
  have hs2 : Slab (w1.setCell ⟨R, 8, none⟩ q') 1 q' s2.asked.length (numsV s2.asked) := Slab.same hs (fun g hg => heap_setCell_other _ _ _ _ (hne g hg))
  refine EK.repl (K := CK) (s2 := s2) [⟨1, V.i, s.inp.length, bytesV s.inp, s.closed = false⟩, ⟨1, V.o, s.out.length, bytesV s.out, True⟩] [⟨2, V.r, s.came.length, cameV s.came, True⟩]
    ⟨1, V.q, s.asked.length, numsV s.asked, True⟩ ⟨1, q', s2.asked.length, numsV s2.asked, True⟩ rfl (by show clParts _ s2 = _; simp only [clParts, hi, hin, ho, hr]; rfl) h ?_ hb2 (fun _ => hs2) (fun g hg => Slab.lt hs2 hg) hn
  exact ((Turn.refl (fun g => g = R ∨ V.q.ownBlock = some g) w).upd hu (fun g hg => .inl (.inr hg))).set (.inl (.inl rfl)) 8 q'
set_option maxRecDepth 20000 in
set_option maxHeartbeats 4000000 in
theorem ask_c (R : Nat) (V : CV) (s : Cl) (hok : s.Ok) (body : ByteArray) (hbs : body.size ≤ 9223372036854770000) (hlen : s.out.length ≤ 274877906944) (w : World) (h : CK.At w R V s) :
    Calls Tryd.prog 38 #[.pointer (some ⟨R, 0, none⟩), .string body] w (CK.Post R V s w (s.ask body).1 (Cl.askV (s.ask body))) := by
  obtain ⟨⟨_, _, c2, _, _, _, _, c7, c8, _, _, c11⟩, hf⟩ := cl_cells h
  have f7 := hf 7
  have f8 := hf 8
  have hRl := h.ltR
  clear hf
  by_cases hst : (s.closed || s.ending) = true
  · have HT := Lib.hid (show s.ask body = (s, 0, 285) from if_pos hst)
    have H := Lib.hid h
    have hst2 := hst
    clear h hok c7 c8 f7 f8
    cases hcl : s.closed with
    | true =>
      rw [hcl] at c2
      clear hst hst2
      go_enter Tryd.func38, Tryd.ntmps38
      go_wp2
      go_ret2
      rw [HT.out]
      exact EK.post_same H.out _
    | false =>
      have hen : s.ending = true := by rw [hcl] at hst; exact hst
      rw [hcl] at c2
      rw [hen] at c11
      clear hst hst2
      go_enter Tryd.func38, Tryd.ntmps38
      go_wp2
      go_ret2
      rw [HT.out]
      exact EK.post_same H.out _
  · have hcl : s.closed = false := by cases h : s.closed with | false => rfl | true => rw [h] at hst; exact absurd rfl hst
    have hen : s.ending = false := by cases h : s.ending with | false => rfl | true => rw [h, Bool.or_true] at hst; exact absurd rfl hst
    rw [hcl] at c2
    rw [hen] at c11
    have hq := cl_asked h
    obtain ⟨A, cap, hvq, hnc, hcm, _⟩ := Slab.form hq
    obtain ⟨vi, vo, vq, vr⟩ := V
    simp only at hvq c8
    subst hvq
    have hfits := fits_c R ⟨vi, vo, .slice A s.asked.length cap, vr⟩ s body hbs w h
    by_cases hfull : 16 ≤ s.asked.length
    · have HT := Lib.hid (show s.ask body = (s, 0, 5) by unfold Cl.ask; rw [if_neg hst, if_pos hfull])
      have H := Lib.hid h
      clear h hok c7 f7 f8 hst hq hfits
      go_enter Tryd.func38, Tryd.ntmps38
      go_wp2
      go_ret2
      rw [HT.out]
      exact EK.post_same H.out _
    · by_cases hlg : s.long body = true
      · have HT := Lib.hid (show s.ask body = (s, 0, 1) by unfold Cl.ask; rw [if_neg hst, if_neg hfull, if_pos hlg])
        have H := Lib.hid h
        unfold Cl.long at hlg
        simp only [Bool.not_eq_true'] at hlg
        rw [hlg] at hfits
        have HFI := Lib.hid hfits
        clear h hok c7 f7 f8 hst hq hfits hlg
        go_enter Tryd.func38, Tryd.ntmps38
        go_wp2_with (go_at_call 71; refine HFI.out.mono ?_; rintro e w' ⟨rfl, rfl⟩)
        go_ret2
        rw [HT.out]
        exact EK.post_same H.out _
      · have hl2 : s.long body = false := by simpa using hlg
        have HT := Lib.hid (show s.ask body = (({ s with id := s.id + 1, asked := s.asked ++ [s.id] } : Cl).send (s.askM body), s.id, packE ((s.askM body).summed s.sums)) by unfold Cl.ask; rw [if_neg hst, if_neg hfull, if_neg hlg])
        unfold Cl.long at hl2
        simp only [Bool.not_eq_false'] at hl2
        rw [hl2] at hfits
        have HFI := Lib.hid hfits
        have hidl := hok.id
        have e1 : (((s.id + 1 : Nat)) : Int) = (s.id : Int) + 1 := rfl
        obtain ⟨h1, ht1, hn1⟩ := cl_put h (s2 := { s with id := s.id + 1 }) ((Turn.refl (fun g => g = R) w).set (g := R) (.inl rfl) 7 (.int .u32 ((s.id : Int) + 1))) (heap_setCell_same _ R 7 _ _ (.int .u32 ((s.id : Int) + 1)) h.blk) (fun _ => ⟨hcl, rfl⟩) rfl rfl rfl
        have hb2 : Below (w.setCell ⟨R, 7, none⟩ (.int .u32 ((s.id : Int) + 1))).heap.size (w.setCell ⟨R, 7, none⟩ (.int .u32 ((s.id : Int) + 1))) ((w.setCell ⟨R, 7, none⟩ (.int .u32 ((s.id : Int) + 1))).alloc (.cells #[.int .u32 (s.id : Int)] 25)) := (Below.refl _ _).alloc (Nat.le_refl _) _
        have h2 : CK.At ((w.setCell ⟨R, 7, none⟩ (.int .u32 ((s.id : Int) + 1))).alloc (.cells #[.int .u32 (s.id : Int)] 25)) R _ _ := StAt.below h1 hb2
        have H2 := Lib.hid h2
        have HT2 := Lib.hid (ht1.trans (Turn.of_below hb2))
        have HS2 := Lib.hid (show Src Tryd.prog 1 76 (.slice (some ⟨w.heap.size, 0, none⟩) 1 1) 1 [.int .u32 (s.id : Int)] ((w.setCell ⟨R, 7, none⟩ (.int .u32 ((s.id : Int) + 1))).alloc (.cells #[.int .u32 (s.id : Int)] 25)) from
          Src.ofSlice _ numTy.slice _ 1 1 _ rfl (World.news_of_block (by have := heap_alloc_new (w.setCell ⟨R, 7, none⟩ (.int .u32 ((s.id : Int) + 1))) (.cells #[.int .u32 (s.id : Int)] 25); simpa using this)) (by simp [Value.oneCell']))
        have HM := Lib.hid (show MsgOk (s.askM body) from ⟨by show s.id < _; omega, by show (0 : Nat) < _; omega, by show _ ≤ (3 : Int); decide, by show (3 : Int) ≤ _; decide, hbs⟩)
        clear h hok hst hq hfits hl2 hlg h1 ht1 hn1 hb2 h2 e1
        go_enter Tryd.func38, Tryd.ntmps38
        go_wp2_with (first
          | (go_at_call 71; refine HFI.out.mono ?_; rintro e w' ⟨rfl, rfl⟩)
          | (at_builtin; refine wpList_slab numTy 76 (by rfl) _ _ (by rfl) (.slice A s.asked.length cap) s.asked.length (numsV s.asked) (by rfl) (cl_asked H2.out) _ (by rfl) 1 [.int .u32 (s.id : Int)] HS2.out (by unfold maxLen; omega) (by omega) ?_; intro v3 w3 hs3 hu3; have hs3' : Slab w3 1 v3 (s.asked ++ [s.id]).length (numsV (s.asked ++ [s.id])) := (by rw [List.length_append, numsV_append]; exact hs3); obtain ⟨h4, ht4, hn4⟩ := cl_grown H2.out (s2 := { s with id := s.id + 1, asked := s.asked ++ [s.id] }) hu3 hs3' rfl rfl rfl rfl rfl; have hb3 := (hu3.block H2.out.ltR (H2.out.nR _ (.tail _ (.tail _ (.head _))))).trans H2.out.blk; have d8 := cell_of_row _ _ 8 _ _ _ hb3; have e8 := frozen_of_row _ _ 8 _ _ hb3; have H4 := Lib.hid h4; have HT4 := Lib.hid (HT2.out.trans (ht4.weak (fun g hg => .inl (cl_F s hg)))); have HN4 := Lib.hid (show ∀ g, CK.F R _ _ g → CK.F R ⟨vi, vo, .slice A s.asked.length cap, vr⟩ s g ∨ w.heap.size ≤ g from fun g hg => (hn4 g hg).elim (fun e => .inl (cl_F s e)) (fun e => .inr (Nat.le_trans HT2.out.size e))); obtain ⟨A3, cap3, hv3, _⟩ := Slab.form hs3; subst hv3; clear hs3 hu3 hs3' h4 ht4 hn4 hb3)
          | (go_at_call 62; go_must (refine (send_c R _ 118 vo s.out s.sums (s.askM body) HM.out hlen _ H4.out.blk rfl rfl (cl_out H4.out) (H4.out.nR _ (.tail _ (.head _)))).mono ?_; rintro e w5 hp; obtain ⟨V5, rfl, h5, ht5, hn5⟩ := cl_sent H4.out hp; have HF := Lib.hid (And.intro h5 (And.intro (HT4.out.trans (ht5.weak (fun g hg => HN4.out g hg))) (show ∀ g, CK.F R V5 _ g → CK.F R ⟨vi, vo, .slice A s.asked.length cap, vr⟩ s g ∨ w.heap.size ≤ g from fun g hg => (hn5 g hg).elim (HN4.out g) (fun e => .inr (Nat.le_trans HT4.out.size e))))); clear hp h5 ht5 hn5)))
        go_ret2
        rw [HT.out]
        exact ⟨V5, rfl, HF.out.1, HF.out.2.1, HF.out.2.2⟩
set_option maxRecDepth 20000 in
set_option maxHeartbeats 4000000 in
theorem bye_c (R : Nat) (V : CV) (s : Cl) (hok : s.Ok) (hlen : s.out.length ≤ 274877906944) (w : World) (h : CK.At w R V s) :
    Calls Tryd.prog 40 #[.pointer (some ⟨R, 0, none⟩)] w (CK.Post R V s w s.part.1 (.int .i64 (s.part.2 : Int))) := by
  obtain ⟨⟨_, _, c2, _, _, _, _, c7, _, _, c10, c11⟩, hf⟩ := cl_cells h
  have f7 := hf 7
  have f10 := hf 10
  have f11 := hf 11
  have hRl := h.ltR
  clear hf
  by_cases hst : (s.closed || s.ending) = true
  · have HT := Lib.hid (show s.part = (s, 285) from if_pos hst)
    have H := Lib.hid h
    have hst2 := hst
    clear h hok c7 f7 f10 f11
    cases hcl : s.closed with
    | true =>
      rw [hcl] at c2
      clear hst hst2
      go_enter Tryd.func40, Tryd.ntmps40
      go_wp2
      go_ret
      rw [HT.out]
      exact EK.post_same H.out _
    | false =>
      have hen : s.ending = true := by rw [hcl] at hst; exact hst
      rw [hcl] at c2
      rw [hen] at c11
      clear hst hst2
      go_enter Tryd.func40, Tryd.ntmps40
      go_wp2
      go_ret
      rw [HT.out]
      exact EK.post_same H.out _
  · have hcl : s.closed = false := by cases h : s.closed with | false => rfl | true => rw [h] at hst; exact absurd rfl hst
    have hen : s.ending = false := by cases h : s.ending with | false => rfl | true => rw [h, Bool.or_true] at hst; exact absurd rfl hst
    rw [hcl] at c2
    rw [hen] at c11
    have HT := Lib.hid (show s.part = (({ s with bye := s.id, ending := true, id := s.id + 1 } : Cl).send s.byeM, packE (s.byeM.summed s.sums)) from if_neg hst)
    have hidl := hok.id
    have hblk := heap_setCell_same _ R 7 _ _ (.int .u32 ((s.id : Int) + 1)) (heap_setCell_same _ R 11 _ _ (.bool true) (heap_setCell_same _ R 10 _ _ (.int .u32 (s.id : Int)) h.blk))
    have ht := (((Turn.refl (fun g => g = R) w).set (g := R) (.inl rfl) 10 (.int .u32 (s.id : Int))).set (g := R) (.inl rfl) 11 (.bool true)).set (g := R) (.inl rfl) 7 (.int .u32 ((s.id : Int) + 1))
    have h1 := cl_put h (s2 := { s with bye := s.id, ending := true, id := s.id + 1 }) ht hblk (fun _ => ⟨hcl, rfl⟩) rfl rfl rfl
    have H1 := Lib.hid h1
    have HM := Lib.hid (show MsgOk s.byeM from ⟨by show s.id < _; omega, by show (0 : Nat) < _; omega, by show _ ≤ (5 : Int); decide, by show (5 : Int) ≤ _; decide, by show (0 : Nat) ≤ _; omega⟩)
    have hq : ∀ n, CK.At (World.drewN _ n) R V _ := fun n => StAt.below h1.1 (below_drewN' _ n)
    have ho := fun n => cl_out (hq n)
    have HSEND := Lib.hid (fun (n : Nat) => show Calls Tryd.prog 62 #[.pointer (some ⟨R, 0, none⟩), .agg #[.int .u32 (s.id : Int), .int .u32 0, .int .i64 5, .string ⟨#[]⟩, .bool false]] _ (fun e w2 => CK.Post R V s w (({ s with bye := s.id, ending := true, id := s.id + 1 } : Cl).send s.byeM) (.int .i64 (packE (s.byeM.summed s.sums) : Int)) e w2) from
      (send_c R _ 118 V.o s.out s.sums s.byeM HM.out hlen _ (hq n).blk rfl rfl (ho n) (h.nR _ (.tail _ (.head _)))).mono (fun e w2 hp => EK.seq (h1.2.1.trans (Turn.of_below (below_drewN' _ n))) (fun g hg => h1.2.2 g hg) (cl_sent (hq n) hp)))
    clear h hok hst hblk ht h1 hq ho
    go_enter Tryd.func40, Tryd.ntmps40
    go_wp2
    go_region_with (go_at_call 62; refine (HSEND.out _).mono ?_; rintro e w2 ⟨V5, rfl, h5, ht5, hn5⟩; have HF := Lib.hid (And.intro h5 (And.intro ht5 hn5)); clear h5 ht5 hn5)
    all_goals (
      go_wp2
      go_ret
      rw [HT.out]
      exact ⟨V5, rfl, HF.out.1, HF.out.2.1, HF.out.2.2⟩)
set_option maxHeartbeats 2000000 in
theorem clOpen_c (R : Nat) (V : CV) (s : Cl) (w : World) (h : CK.At w R V s) :
    Calls Tryd.prog 45 #[.pointer (some ⟨R, 0, none⟩)] w fun e w' => e = .returned (.bool (!s.closed)) ∧ w = w' := by
  have c2 := (cl_cells h).1.2.2.1
  generalize s.closed = cl at *
  clear h
  go_enter Tryd.func45, Tryd.ntmps45
  go_wp2
  go_ret
  exact ⟨rfl, rfl⟩
set_option maxHeartbeats 2000000 in
theorem clWhy_c (R : Nat) (V : CV) (s : Cl) (w : World) (h : CK.At w R V s) :
    Calls Tryd.prog 46 #[.pointer (some ⟨R, 0, none⟩)] w fun e w' => e = .returned (.int .i64 (s.why : Int)) ∧ w = w' := by
  have c4 := (cl_cells h).1.2.2.2.2.1
  generalize s.why = y at *
  clear h
  go_enter Tryd.func46, Tryd.ntmps46
  go_wp2
  go_ret
  exact ⟨rfl, rfl⟩
/-- Out: what went out; it is the caller's -/
def ClOutPost (R : Nat) (V : CV) (s : Cl) (w : World) (e : Ending) (w' : World) : Prop :=
  e = .returned V.o ∧ CK.At w' R { V with o := .slice none 0 0 } { s with out := [] } ∧ BSlab w' V.o s.out ∧ Turn (fun g => g = R) w w'
set_option maxHeartbeats 2000000 in
theorem clOut_c (R : Nat) (V : CV) (s : Cl) (w : World) (h : CK.At w R V s) :
    Calls Tryd.prog 44 #[.pointer (some ⟨R, 0, none⟩)] w (ClOutPost R V s w) := by
  have HT := Lib.hid (taken_c R (clCells R V s) 118 V.o w h.blk rfl)
  have H := Lib.hid h
  clear h
  go_enter Tryd.func44, Tryd.ntmps44
  go_wp2_with fail
  refine HT.out.mono ?_; rintro e w1 ⟨rfl, hb, ht⟩
  have HB := Lib.hid (And.intro hb ht)
  clear hb ht
  go_wp2
  go_ret
  obtain ⟨hb, ht⟩ := HB.out
  refine ⟨rfl, ?_, Slab.turn (cl_out H.out) ht (fun g hg e => H.out.nR _ (.tail _ (.head _)) (by rw [← e]; exact hg)), ht⟩
  exact (EK.repl (K := CK) (v2 := { V with o := .slice none 0 0 }) (s2 := { s with out := [] }) [⟨1, V.i, s.inp.length, bytesV s.inp, s.closed = false⟩] [⟨1, V.q, s.asked.length, numsV s.asked, True⟩, ⟨2, V.r, s.came.length, cameV s.came, True⟩]
    ⟨1, V.o, s.out.length, bytesV s.out, True⟩ ⟨1, .slice none 0 0, 0, [], True⟩ rfl rfl H.out (ht.weak (fun g hg => .inl hg)) hb (fun _ => slab_nil _ _) (fun g hg => by cases hg) (fun g hg => by cases hg)).1
end Go.Proofs.YtkpickojeghppaaDoor
