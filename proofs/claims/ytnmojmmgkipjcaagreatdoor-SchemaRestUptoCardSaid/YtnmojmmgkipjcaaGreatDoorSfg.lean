/- The walk of the rule properties. Conditions: what strconv.Itoa answers is a text (ItoC). -/
import Derived.Test.YtnmojmmgkipjcaaGreatDoorRuleb
import Derived.WalkSpells
namespace Go.Proofs.YtnmojmmgkipjcaaGreatDoor
open Go.RowKit
theorem wpList_app_any {P : Program} {S E : TypeId} {z : Value} {size bytes : Nat} {w : World} {ops : Array Oper} {rest : List Oper} {o : Oper} {a : Act} {Q : Exit → Act → World → Prop} (ty : SlTy P S E z size bytes) (hgd : o.guard = none) (s x : Operand)
    (ho : o.op = .call { callee := .builtin .append, args := #[s, x], argTypes := #[S, S] })
    (v : Value) (n : Nat) (xs : List Value) (hs : a.eval s = v) (hown : Row w E size v n xs)
    (A : Option Addr) (m c : Nat) (news : List Value) (hx : a.eval x = .slice A m c) (hl : news.length = m * size)
    (hA : A = none → m = 0) (hnews : ∀ a, A = some a → ∀ j u, news[j]? = some u → w.cell? (a.add j) = some u) (h1 : ∀ u ∈ news, u.oneCell' = true)
    (h63 : n + m ≤ maxLen) (hbytes : (n + m) * bytes ≤ 140737488355328)
    (h : ∀ v' w', Row w' E size v' (n + m) (xs ++ news) → Upd w w' v.ownBlock v'.ownBlock → wpList P ops Q rest (a.put o.dst v') w') : wpList P ops Q (o :: rest) a w :=
  wpList_plain hgd fun _ hK => by
    obtain ⟨v', w', hr, h2, h3⟩ := run_app_any (w := w) ty o.type v n xs hown A m c news hl hA hnews h1 h63 hbytes
    unfold Oper.wp execOp
    simp only [ho, resolve, invoke, builtin, Sem.run_bind, Sem.run_pure, Result.andThen_ok, List.map_toArray, List.map_cons, List.map_nil, hs, hx, hr]
    exact hK _ _ (h v' w' h2 h3)
theorem row_one {w : World} {E : TypeId} (s : ByteArray) : Row (w.alloc (.cells #[.string s] E)) E 1 (.slice (some ⟨w.heap.size, 0, none⟩) 1 1) 1 [.string s] :=
  ⟨rfl, .inr ⟨w.heap.size, 1, #[.string s], rfl, Nat.zero_le _, heap_alloc_new w _, Nat.le_refl _, by unfold maxLen; omega, rfl, rfl⟩⟩
theorem Like.cons {ss : List ByteArray} {p : List (Option ByteArray)} (h : Like ss p) (s : ByteArray) (u : Option ByteArray) (hu : ∀ t, u = some t → s = t) : Like (s :: ss) (u :: p) := by
  refine ⟨by simp [h.1], fun j t hj => ?_⟩
  cases j with
  | zero => simp at hj; rw [hu t hj]; rfl
  | succ j => exact h.2 j t (by simpa using hj)
/-- a path with one step more, behind the store into the result's struct -/
theorem broke_cons {w wv w3 : World} {F : Nat} {T : TypeId} {s : ByteArray} {ss : List ByteArray} {p : List (Option ByteArray)} {u : Option ByteArray} {wd : ByteArray} {v' : Value} {E : TypeId} {x y : Value} (hF : w.heap.size ≤ F) (hFl : F < wv.heap.size) (hf : wv.heap[F]? = some (.cells #[x, y] T (0, 0))) (hb : Below w.heap.size w wv)
    (hr : Row w3 E 1 v' (1 + ss.length) ([.string s] ++ ss.map Value.string)) (hu : Upd (wv.alloc (.cells #[.string s] E)) w3 (some wv.heap.size) v'.ownBlock) (hl : Like ss p) (hu2 : ∀ t, u = some t → s = t) :
    ((w3.setCell ⟨F, 0, none⟩ v').setCell ⟨F, 1, none⟩ (.string wd)).heap[F]? = some (.cells #[v', .string wd] T (0, 0)) ∧
    BBroke (u :: p) wd w (.returned (.tuple #[.agg #[v', .string wd], .bool true])) ((w3.setCell ⟨F, 0, none⟩ v').setCell ⟨F, 1, none⟩ (.string wd)) := by
  have ho : ∀ g, v'.ownBlock = some g → wv.heap.size ≤ g := fun g hg => by
    rcases own_or hu g hg with h | h
    · injection h with h; omega
    · simp only [World.size_alloc] at h; omega
  have hF3 : w3.heap[F]? = some (.cells #[x, y] T (0, 0)) := (hu.block (by simp only [World.size_alloc]; omega) (fun e => by injection e with e; omega)).trans ((heap_alloc_old _ _ hFl).trans hf)
  refine ⟨set2 hF3, ?_⟩
  have hr2 : Row w3 E 1 v' (s :: ss).length ((s :: ss).map Value.string) := by rw [List.length_cons, Nat.add_comm]; exact hr
  have h5 : ∀ b, b ≠ F → ((w3.setCell ⟨F, 0, none⟩ v').setCell ⟨F, 1, none⟩ (.string wd)).heap[b]? = w3.heap[b]? := fun b hb => by
    rw [heap_setCell_other _ _ _ _ hb, heap_setCell_other _ _ _ _ hb]
  have hr3 : Row ((w3.setCell ⟨F, 0, none⟩ v').setCell ⟨F, 1, none⟩ (.string wd)) E 1 v' (s :: ss).length ((s :: ss).map Value.string) :=
    hr2.same (fun g hg => h5 g (fun e => by have := ho g hg; omega))
  obtain ⟨a, c, rfl, h1, h2⟩ := Row.strs (ok := fun b => w.heap.size ≤ b) hr3 (fun g hg => by have := ho g hg; have := hb.size; omega)
  exact ⟨a, c, s :: ss, rfl, Lib.hid ⟨h1.1, h1.2, hl.cons s u hu2, h2⟩, Lib.hid (below_set2 (((hb.alloc (by have := hb.size; omega) _)).trans (hu.below (by have := hb.size; simp only [World.size_alloc]; omega) (fun g e => by injection e with e; have := hb.size; omega))) hF)⟩
mutual
theorem faultS_len : ∀ (t v : JV) (p : List (Option ByteArray)) (wd : ByteArray), faultS t v = some (p, wd) → p.length ≤ t.size
  | .mk k i s ns is, v, p, wd, h => by
    rw [faultS] at h
    rw [JV.size]
    have := faultL_len is ns _ v p wd h
    omega
theorem faultL_len : ∀ (is : List JV) (ns : List ByteArray) (kn v : JV) (p : List (Option ByteArray)) (wd : ByteArray), faultL is ns kn v = some (p, wd) → p.length ≤ JV.sizes is
  | x :: is, w :: ns, kn, v, p, wd, h => by
    rw [faultL] at h
    rw [JV.sizes]
    split at h
    · rename_i p' wd' h2
      simp only [Option.some.injEq, Prod.mk.injEq] at h
      have := faultR_len x w kn v p' wd' h2
      rw [← h.1]; omega
    · have := faultL_len is ns kn v p wd h
      omega
  | [], _, _, _, _, _, h => by simp [faultL] at h
  | _ :: _, [], _, _, _, _, h => by simp [faultL] at h
theorem faultR_len : ∀ (x : JV) (w : ByteArray) (kn v : JV) (p : List (Option ByteArray)) (wd : ByteArray), faultR x w kn v = some (p, wd) → p.length ≤ x.size
  | .mk k i s ns is, w, kn, v, p, wd, h => by
    have hz : ∀ {b : Prop} [Decidable b], (if b then (none : FR) else some ([], ⟨#[]⟩)) = some (p, wd) → p.length ≤ (JV.mk k i s ns is).size := fun h => by
      split at h
      · cases h
      · simp only [Option.some.injEq, Prod.mk.injEq] at h
        rw [← h.1]; simp
    rw [faultR] at h
    split at h
    · have := faultP_len is ns v p wd h
      rw [JV.size]; omega
    · split at h
      · exact hz h
      · split at h
        · exact hz h
        · split at h
          · split at h
            · rename_i f _ _
              rw [JV.size]
              have h1 := fun u p wd (hf : faultL is ns (knownJ ns is) u = some (p, wd)) => faultL_len is ns (knownJ ns is) u p wd hf
              have : ∀ (l : List JV) (p : List (Option ByteArray)), firstItem (fun u => faultL is ns (knownJ ns is) u) l = some (p, wd) → p.length ≤ 1 + JV.sizes is := by
                intro l
                induction l with
                | nil => intro p h; simp [firstItem] at h
                | cons u r ih =>
                  intro p h
                  rw [firstItem] at h
                  split at h
                  · rename_i p' wd' h2
                    simp only [Option.some.injEq, Prod.mk.injEq] at h
                    have := h1 u p' wd' h2
                    rw [← h.1, List.length_cons]; omega
                  · exact ih p h
              exact this v.items p h
            · cases h
          · split at h
            · exact hz h
            · exact hz h
theorem faultP_len : ∀ (is : List JV) (ns : List ByteArray) (v : JV) (p : List (Option ByteArray)) (wd : ByteArray), faultP is ns v = some (p, wd) → p.length ≤ 1 + JV.sizes is
  | x :: is, n :: ns, v, p, wd, h => by
    rw [faultP] at h
    rw [JV.sizes]
    split at h
    · split at h
      · rename_i p' wd' h2
        simp only [Option.some.injEq, Prod.mk.injEq] at h
        have := faultS_len x _ p' wd' h2
        rw [← h.1, List.length_cons]; omega
      · have := faultP_len is ns v p wd h
        omega
    · have := faultP_len is ns v p wd h
      omega
  | [], _, _, _, _, h => by simp [faultP] at h
  | _ :: _, [], _, _, _, h => by simp [faultP] at h
end
theorem hasJ_mem {v u : JV} {n : ByteArray} (h : hasJ v n = some u) : u ∈ v.items := by
  unfold hasJ at h
  split at h
  · have : ∀ (ns : List ByteArray) (is : List JV), hasG n ns is = some u → u ∈ is := by
      intro ns
      induction ns with
      | nil => intro is h; cases is <;> simp [hasG] at h
      | cons a r ih =>
        intro is h
        cases is with
        | nil => simp [hasG] at h
        | cons t q =>
          rw [hasG] at h
          split at h
          · injection h with h; rw [h]; simp
          · exact List.mem_cons_of_mem _ (ih q h)
    exact this _ _ h
  · cases h
theorem JV.sizeN {v u : JV} (h : u ∈ v.items) {N : Nat} (hv : v.size ≤ N) : u.size ≤ N := by have := JV.size_item h; omega
theorem JV.bulkN {v u : JV} (h : u ∈ v.items) {N : Nat} (hv : v.bulk ≤ N) : u.bulk ≤ N := by have := JV.bulk_item h; omega
set_option maxRecDepth 20000 in
set_option maxHeartbeats 8000000 in
theorem propsBroken_c (N m : Nat) (ih : FaultSaid N m) (is : List JV) (ns : List ByteArray) (hm : ∀ x ∈ is, x.size ≤ m) (hg : GoodL is) (hbk : ∀ x ∈ is, x.bulk ≤ 1099511627776) (hl : is.length ≤ 1099511627776) (hnl : ns.length = is.length) (hms : JV.sizes is ≤ 1099511627776) (v : JV) (hv : v.size ≤ N) (hvb : v.bulk ≤ 1099511627776) (an : Option Addr) (cn : Nat) (ao : Option Addr) (co : Nat) (vs : List Value) (w : World) (okS okV : Nat → Prop)
    (hns : StrsAt w okS an ns) (hs : PtrsL w okS ao is) (hr : Rep w okV v vs) (hi : ItoC N w) :
    Calls Tryz.prog 107 #[.agg #[.slice an ns.length cn, .slice ao is.length co], .agg vs.toArray] w (BRes w (faultP is ns v)) := by
  have hr0 := hr
  obtain ⟨kv, iv, sv, nv, qv⟩ := v
  rw [rep_mk] at hr
  obtain ⟨_, _, _, vn, vc, vi, vd, rfl, hvc, hvd, hst, hit⟩ := hr
  unfold maxLen at hvc hvd
  have hb : Below w.heap.size w (((w.alloc (.cells #[.slice an ns.length cn, .slice ao is.length co] 108)).alloc (.cells #[.int .i64 kv, .int .i64 iv, .string sv, .slice vn nv.length vc, .slice vi qv.length vd] 25)).alloc (.cells #[.slice none 0 0, .string ⟨#[]⟩] 72)) := (by repeat (first | with_reducible exact Below.refl _ _ | with_reducible refine below_drewN ?_ _ | with_reducible refine Below.drew ?_ | with_reducible refine below_set5 ?_ (by first | (simp; done) | (simp; omega)) | with_reducible refine Below.alloc ?_ (by first | (simp; done) | (simp; omega)) _ | with_reducible refine Below.setCell ?_ (by first | (simp; done) | (simp; omega)) _))
  have HB := Lib.hid hb
  have HNS := Lib.hid (hns.below hb)
  have HS := Lib.hid (below_keeps (ptrsL_keeps ao is) hs hb)
  have HST := Lib.hid (hst.below hb)
  have HIT := Lib.hid (hit.below hb)
  have HI := Lib.hid (hi.below hb)
  have hP : (((w.alloc (.cells #[.slice an ns.length cn, .slice ao is.length co] 108)).alloc (.cells #[.int .i64 kv, .int .i64 iv, .string sv, .slice vn nv.length vc, .slice vi qv.length vd] 25)).alloc (.cells #[.slice none 0 0, .string ⟨#[]⟩] 72)).heap[w.heap.size]? = some (.cells #[.slice an ns.length cn, .slice ao is.length co] 108 (0, 0)) := (heap_alloc_old _ _ (by simp; omega)).trans ((heap_alloc_old _ _ (by simp)).trans (heap_alloc_new w _))
  have hV : (((w.alloc (.cells #[.slice an ns.length cn, .slice ao is.length co] 108)).alloc (.cells #[.int .i64 kv, .int .i64 iv, .string sv, .slice vn nv.length vc, .slice vi qv.length vd] 25)).alloc (.cells #[.slice none 0 0, .string ⟨#[]⟩] 72)).heap[w.heap.size + 1]? = some (.cells #[.int .i64 kv, .int .i64 iv, .string sv, .slice vn nv.length vc, .slice vi qv.length vd] 25 (0, 0)) := (heap_alloc_old _ _ (by simp)).trans (by have h := heap_alloc_new (w.alloc (.cells #[.slice an ns.length cn, .slice ao is.length co] 108)) (.cells #[.int .i64 kv, .int .i64 iv, .string sv, .slice vn nv.length vc, .slice vi qv.length vd] 25); rw [World.size_alloc] at h; exact h)
  have hF := heap_alloc_new ((w.alloc (.cells #[.slice an ns.length cn, .slice ao is.length co] 108)).alloc (.cells #[.int .i64 kv, .int .i64 iv, .string sv, .slice vn nv.length vc, .slice vi qv.length vd] 25)) (.cells #[.slice none 0 0, .string ⟨#[]⟩] 72)
  simp only [World.size_alloc] at hF
  have HP := Lib.hid hP
  have HV := Lib.hid hV
  have HF := Lib.hid hF
  have hWs : (((w.alloc (.cells #[.slice an ns.length cn, .slice ao is.length co] 108)).alloc (.cells #[.int .i64 kv, .int .i64 iv, .string sv, .slice vn nv.length vc, .slice vi qv.length vd] 25)).alloc (.cells #[.slice none 0 0, .string ⟨#[]⟩] 72)).heap.size = w.heap.size + 1 + 1 + 1 := by simp
  have HM := Lib.hid hm
  have HG := Lib.hid hg
  have HK := Lib.hid hbk
  have HH := Lib.hid (And.intro hv hvb)
  have HIH := Lib.hid ih
  have HMS := Lib.hid hms
  have HNL := Lib.hid hnl
  have hnvl : nv.length ≤ 9223372036854775807 := by omega
  clear hr0 hb hs hi hm hg hbk ih hv hvb hns hst hit hP hV hF hms hnl
  go_enter Tryz.func107, Tryz.ntmps107
  go_wp2
  generalize hW0 : (((w.alloc (.cells #[.slice an ns.length cn, .slice ao is.length co] 108)).alloc (.cells #[.int .i64 kv, .int .i64 iv, .string sv, .slice vn nv.length vc, .slice vi qv.length vd] 25)).alloc (.cells #[.slice none 0 0, .string ⟨#[]⟩] 72)) = W0 at *
  clear hW0
  have HWS := Lib.hid hWs
  have hw0 : w.heap.size < W0.heap.size := by omega
  have hw1 : w.heap.size + 1 < W0.heap.size := by omega
  have hw2 : w.heap.size + 1 + 1 < W0.heap.size := by omega
  clear hWs
  go_loopw [15] (fun q wr => ∃ j : Nat, j ≤ ns.length ∧ q = .int .i64 j ∧ Hid (faultP is ns (.mk kv iv sv nv qv) = faultP (is.drop j) (ns.drop j) (.mk kv iv sv nv qv)) ∧ Hid (Below W0.heap.size W0 wr)) (fun q _ => ns.length - (intOf q).toNat)
  case atStart => exact ⟨0, Nat.zero_le _, rfl, Lib.hid rfl, Lib.hid (Below.refl _ _)⟩
  case round =>
    obtain ⟨j, hj, rfl, HQ, HBL⟩ := hrel
    have hs1 := HBL.out.size
    obtain ⟨⟨v0, v1, v2, v3, v4⟩, _⟩ := cellsOf5 ((HBL.out.block _ hw1).trans HV.out)
    have hPr := (HBL.out.block _ hw0).trans HP.out
    have p0 := cell_of_row wr _ 0 _ _ _ hPr
    have p1 := cell_of_row wr _ 1 _ _ _ hPr
    have hFr := (HBL.out.block _ hw2).trans HF.out
    have f0 := cell_of_row wr _ 0 _ _ _ hFr
    have f1 := cell_of_row wr _ 1 _ _ _ hFr
    have f2 := frozen_of_row wr _ 0 _ _ hFr
    have f3 := frozen_of_row wr _ 1 _ _ hFr
    simp only [List.getElem?_toArray, List.getElem?_cons_zero, List.getElem?_cons_succ] at p0 p1 f0 f1
    have HFR := Lib.hid hFr
    clear hPr hFr
    by_cases hlt : j < ns.length
    · have hlti : j < is.length := by have := HNL.out; omega
      obtain ⟨b, off, rfl, hnc⟩ := (HNS.out.below HBL.out).at j hlt
      have hncl := cell_lt hnc
      simp only at hncl
      have HQ2 := Lib.hid (show faultP is ns (.mk kv iv sv nv qv) = match hasJ (.mk kv iv sv nv qv) ns[j] with
        | some u => (match faultS is[j] u with | some (p, wd) => some (some ns[j] :: p, wd) | none => faultP (is.drop (j + 1)) (ns.drop (j + 1)) (.mk kv iv sv nv qv))
        | none => faultP (is.drop (j + 1)) (ns.drop (j + 1)) (.mk kv iv sv nv qv) by
          rw [HQ.out, List.drop_eq_getElem_cons hlti, List.drop_eq_getElem_cons hlt, faultP]
          rfl)
      have HIX := fun (W : World) (hw : Below W0.heap.size W0 W) => index_c W _ vn nv vc ns[j] (HST.out.below hw) hnvl
      have hnone : hasJ (.mk kv iv sv nv qv) ns[j] = none → Hid (faultP is ns (.mk kv iv sv nv qv) = faultP (is.drop (j + 1)) (ns.drop (j + 1)) (.mk kv iv sv nv qv)) := fun h => Lib.hid (by rw [HQ2.out, h])
      clear HQ
      rcases first_or ns[j] nv with ⟨i, hiv, hx, hfi⟩ | hno
      · rw [idx_hit hiv hx hfi] at HIX
        have HIX2 := Lib.hid (HIX wr HBL.out)
        clear HIX
        by_cases h6 : kv = 6
        · have e6 : (kv != 6) = false := by simp [h6]
          have n1 : ¬ (i : Int) < 0 := by omega
          by_cases hil : i < qv.length
          · have hsome : hasJ (.mk kv iv sv nv qv) ns[j] = some qv[i] := (if_pos h6).trans (hasG_at _ nv qv i hiv hil hx hfi)
            have HQ3 := Lib.hid (show faultP is ns (.mk kv iv sv nv qv) = (match faultS is[j] qv[i] with | some (p, wd) => some (some ns[j] :: p, wd) | none => faultP (is.drop (j + 1)) (ns.drop (j + 1)) (.mk kv iv sv nv qv)) from HQ2.out.trans (by rw [hsome]))
            have HMEM := Lib.hid (hasJ_mem hsome)
            have n2 : ¬ (qv.length : Int) ≤ (i : Int) := by omega
            rcases below_keeps (ptrsL_keeps ao is) HS.out HBL.out with h0 | ⟨b3, rfl, _, hb3l, hpt⟩
            · omega
            obtain ⟨q, hq, hsch⟩ := hpt.at j hlti
            rw [Nat.zero_add] at hq
            obtain ⟨b2, off2, an2, cn2, ai2, ci2, rfl, hrj, hlj⟩ := (HIT.out.below HBL.out).at i hil
            obtain ⟨l0, l1, l2, l3, l4⟩ := lie5 hlj
            have hdr := Lib.hid (Below.drew (Below.refl wr.heap.size wr))
            have hcall := HIH.out is[j] (HM.out _ (List.getElem_mem hlti)) (HG.out _ (List.getElem_mem hlti)) (HK.out _ (List.getElem_mem hlti)) qv[i] (JV.sizeN HMEM.out HH.out.1) (JV.bulkN HMEM.out HH.out.2) q _ wr.drew _ _ (SchAt.kept (fun b hlt ho => ⟨ho, hdr.out.block b hlt⟩) _ _ hsch) (hrj.below hdr.out) ((HI.out.below HBL.out).below hdr.out)
            have HLN := Lib.hid (faultS_len is[j] qv[i])
            have HSZ := Lib.hid (JV.size_le (List.getElem_mem hlti))
            clear hnone HQ2 h6 hx hfi hsome hsch hpt hrj hlj
            generalize qv[i] = u at *
            cases hf : faultS is[j] u with
            | none =>
              rw [hf] at hcall HQ3
              have HQ4 := Lib.hid (show faultP is ns (.mk kv iv sv nv qv) = faultP (is.drop (j + 1)) (ns.drop (j + 1)) (.mk kv iv sv nv qv) from HQ3.out)
              clear HQ3 hf HLN HSZ HMEM
              generalize ns[j] = nm at *
              go_wp2_with (go_at_call 88; refine HIX2.out.mono ?_; rintro e w' ⟨rfl, hw⟩; subst hw)
              go_region_law (first
                | (go_simp; go_at_call 19; refine hcall.mono ?_; rintro e wv ⟨rfl, HB4⟩))
              all_goals clear v0 v1 v2 v3 v4 p0 p1 f0 f1 f2 f3 l0 l1 l2 l3 l4 hq hcall
              all_goals go_wp2
              all_goals go_roundw
              all_goals first | exact ⟨j + 1, by omega, by go_num, HQ4, Lib.hid ((HBL.out.trans (hdr.out.mono hs1)).trans (HB4.out.mono (Nat.le_trans hs1 hdr.out.size)))⟩ | (simp [intOf]; omega)
            | some pw =>
              obtain ⟨p', wd'⟩ := pw
              rw [hf] at hcall HQ3
              have HQ4 := Lib.hid (show faultP is ns (.mk kv iv sv nv qv) = some (some ns[j] :: p', wd') from HQ3.out)
              have hpl := HLN.out p' wd' hf
              have hpl2 : p'.length ≤ 1099511627776 := by have := HSZ.out; have := HMS.out; omega
              clear HQ3 hf HLN HSZ HMEM hpl
              generalize ns[j] = nm at *
              go_wp2_with (go_at_call 88; refine HIX2.out.mono ?_; rintro e w' ⟨rfl, hw⟩; subst hw)
              go_region_law (first
                | (go_simp; go_at_call 19; refine hcall.mono ?_; rintro e wv ⟨pa, pc, ss, rfl, HL4, HB4⟩))
              all_goals (
                clear v0 v1 v2 v3 v4 p0 p1 f0 f1 f2 f3 l0 l1 l2 l3 l4 hq hcall
                have hs4 := HB4.out.size
                have hs5 := hdr.out.size
                have hFv := (HB4.out.block _ (by omega)).trans ((hdr.out.block (w.heap.size + 1 + 1) (by omega)).trans HFR.out)
                have HFV := Lib.hid hFv
                have HBV := Lib.hid (HB.out.trans (((HBL.out.trans (hdr.out.mono hs1)).trans (HB4.out.mono (Nat.le_trans hs1 hdr.out.size))).mono HB.out.size))
                have f0 := cell_of_row wv _ 0 _ _ _ hFv
                have f1 := cell_of_row wv _ 1 _ _ _ hFv
                have f2 := frozen_of_row wv _ 0 _ _ hFv
                have f3 := frozen_of_row wv _ 1 _ _ hFv
                simp only [List.getElem?_toArray, List.getElem?_cons_zero, List.getElem?_cons_succ] at f0 f1
                have HSS := Lib.hid (show ss.length = p'.length from HL4.out.2.2.1.1)
                have HST2 := Lib.hid (HL4.out.2.2.2.below ((Below.refl wv.heap.size wv).alloc (Nat.le_refl _) (.cells #[.string nm] 9)))
                have hFl : w.heap.size + 1 + 1 < wv.heap.size := by omega
                clear hFv
                go_wp2_with (at_builtin; go_must (refine wpList_app_any strTy rfl _ _ rfl (.slice (some ⟨wv.heap.size, 0, none⟩) 1 1) 1 [.string nm] rfl (row_one nm) pa ss.length pc (ss.map Value.string) rfl (by simp) (fun hn => by rcases HST2.out with h | ⟨_, _, h, _⟩; (rw [h]; rfl); (rw [hn] at h; cases h)) HST2.out.news (one_strs ss) (by have := HSS.out; unfold maxLen; omega) (by have := HSS.out; omega) ?_); intro v' w3 hrow hu; obtain ⟨ga, gc, rfl, -⟩ := hrow.form; go_must (have HE := Lib.hid (broke_cons (T := 72) (u := some nm) (wd := wd') (by omega) hFl HFV.out HBV.out hrow hu HL4.out.2.2.1 (fun t e => Option.some.inj e))); have g0 := hu.cell (cell_below ((Below.refl wv.heap.size wv).alloc (Nat.le_refl _) (.cells #[.string nm] 9)) f0) (fun e => by have h := Option.some.inj (show some wv.heap.size = some (w.heap.size + 1 + 1) from e); omega); have g1 := hu.cell (cell_below ((Below.refl wv.heap.size wv).alloc (Nat.le_refl _) (.cells #[.string nm] 9)) f1) (fun e => by have h := Option.some.inj (show some wv.heap.size = some (w.heap.size + 1 + 1) from e); omega); obtain ⟨g2⟩ : w3.frozen? ⟨w.heap.size + 1 + 1, 0, none⟩ = false ∧ True := ⟨by rw [hu.frozen (by simp only [World.size_alloc]; omega) (fun e => by have h := Option.some.inj (show some wv.heap.size = some (w.heap.size + 1 + 1) from e); omega)]; exact frozen_of_row _ _ 0 _ _ ((heap_alloc_old _ _ hFl).trans HFV.out), trivial⟩; obtain ⟨g3⟩ : w3.frozen? ⟨w.heap.size + 1 + 1, 1, none⟩ = false ∧ True := ⟨by rw [hu.frozen (by simp only [World.size_alloc]; omega) (fun e => by have h := Option.some.inj (show some wv.heap.size = some (w.heap.size + 1 + 1) from e); omega)]; exact frozen_of_row _ _ 1 _ _ ((heap_alloc_old _ _ hFl).trans HFV.out), trivial⟩; clear hrow hu)
                refine bodyPost_ret (results_ct rfl _ _ (w.heap.size + 1 + 1) 72 _ (0, 0) _ (by rfl) HE.out.1 Tryz.underlying72 rfl (by kernel_rfl)) rfl ?_
                rw [HQ4.out]
                exact HE.out.2)
          · have HQ3 := hnone ((if_pos h6).trans (hasG_none _ nv qv (fun k hk hlt => hfi k hk (by omega))))
            have n2 : (qv.length : Int) ≤ (i : Int) := by omega
            clear hnone HQ2 h6 hx hfi
            generalize ns[j] = nm at *
            go_wp2_with (go_at_call 88; refine HIX2.out.mono ?_; rintro e w' ⟨rfl, hw⟩; subst hw)
            go_roundw
            case rel => exact ⟨j + 1, by omega, by go_num, HQ3, HBL⟩
            case measure => simp [intOf]; omega
        · have e6 : (kv != 6) = true := by simp [h6]
          have HQ3 := hnone (if_neg h6)
          clear hnone HQ2 h6 hx hfi
          generalize ns[j] = nm at *
          go_wp2_with (go_at_call 88; refine HIX2.out.mono ?_; rintro e w' ⟨rfl, hw⟩; subst hw)
          go_roundw
          case rel => exact ⟨j + 1, by omega, by go_num, HQ3, HBL⟩
          case measure => simp [intOf]; omega
      · rw [idx_miss hno] at HIX
        have HIX2 := Lib.hid (HIX wr HBL.out)
        have HQ3 := hnone (by
          by_cases h6 : kv = 6
          · exact (if_pos h6).trans (hasG_none _ nv qv (fun k hk _ => hno k hk))
          · exact if_neg h6)
        clear hnone HQ2 hno HIX
        generalize ns[j] = nm at *
        by_cases h6 : kv = 6
        · have e6 : (kv != 6) = false := by simp [h6]
          clear h6
          go_wp2_with (go_at_call 88; refine HIX2.out.mono ?_; rintro e w' ⟨rfl, hw⟩; subst hw)
          go_roundw
          case rel => exact ⟨j + 1, by omega, by go_num, HQ3, HBL⟩
          case measure => simp [intOf]; omega
        · have e6 : (kv != 6) = true := by simp [h6]
          clear h6
          go_wp2_with (go_at_call 88; refine HIX2.out.mono ?_; rintro e w' ⟨rfl, hw⟩; subst hw)
          go_roundw
          case rel => exact ⟨j + 1, by omega, by go_num, HQ3, HBL⟩
          case measure => simp [intOf]; omega
    · obtain rfl : j = ns.length := by omega
      have HQ3 := Lib.hid (show faultP is ns (.mk kv iv sv nv qv) = none by rw [HQ.out, show ns.length = is.length from HNL.out, List.drop_length, faultP])
      go_wp2
      rw [HQ3.out]
      refine bodyPost_ret (results_ct rfl _ _ (w.heap.size + 1 + 1) 72 _ (0, 0) _ (by rfl) (set2 HFR.out) Tryz.underlying72 rfl (by kernel_rfl)) rfl ?_
      exact ⟨rfl, Lib.hid (below_set2 (HB.out.trans (HBL.out.mono HB.out.size)) (by omega))⟩
end Go.Proofs.YtnmojmmgkipjcaaGreatDoor
