/- The walk of laid: program. Conditions: each object has a name for each item; what is there and what comes in has less than 2 to the 44 bytes. -/
import Derived.Test.YtjmhoccikbgigaaDoorTexts
import Derived.Test.YtjmhoccikbgigaaDoorOwn2
import Derived.Test.YtjmhoccikbgigaaDoorTreefn
import Derived.Deep.RegionLaw
namespace Go.Proofs.YtjmhoccikbgigaaDoor
open Go.RowKit
mutual
/-- each object has a name for each item -/
def okT : JV → Prop
  | .mk k _ _ ns is => (k = 6 → is.length ≤ ns.length) ∧ okTs is
def okTs : List JV → Prop
  | [] => True
  | t :: r => okT t ∧ okTs r
end
theorem okTs_at : ∀ {l : List JV}, okTs l → ∀ (i : Nat) (h : i < l.length), okT l[i]
  | t :: r, h, 0, _ => by rw [okTs] at h; exact h.1
  | t :: r, h, i + 1, hi => by rw [okTs] at h; exact okTs_at h.2 i (by simpa using hi)
theorem encT_len (s : List UInt8) : (encT s).length ≤ 2 * s.length + 2 := by
  have h := flat_len s
  have e : encT s = flat s ++ [0, 1] := rfl
  rw [e, List.length_append]
  simp only [List.length_cons, List.length_nil]
  omega
mutual
theorem enc_len : ∀ t : JV, (enc t).length + 1 ≤ 10 * t.bulk
  | .mk k n s ns is => by
    have h1 := encT_len s.data.toList
    have h2 := encL_len is
    have h3 := encM_len ns is
    have hs : s.data.toList.length = s.size := by simp
    rw [enc, JV.bulk]
    have hn : (encN n).length = 8 := by simp [encN]
    repeat' split
    all_goals simp only [List.length_cons, List.length_append, List.length_nil]
    all_goals omega
theorem encL_len : ∀ l : List JV, (encL l).length ≤ 10 * JV.bulks l
  | [] => by simp [encL]
  | t :: r => by
    have h1 := enc_len t
    have h2 := encL_len r
    rw [encL, JV.bulks]
    simp only [List.length_cons, List.length_append]
    omega
theorem encM_len : ∀ (ns : List ByteArray) (l : List JV), (encM ns l).length ≤ 10 * strsBulk ns + 10 * JV.bulks l
  | [], l => by simp [encM]
  | _ :: _, [] => by simp [encM]
  | n :: ns, t :: r => by
    have h1 := enc_len t
    have h2 := encM_len ns r
    have h3 := encT_len n.data.toList
    have hs : n.data.toList.length = n.size := by simp
    rw [encM, JV.bulks, strsBulk]
    simp only [List.length_cons, List.length_append]
    omega
end
theorem encL_snoc : ∀ (l : List JV) (t : JV), encL (l ++ [t]) = encL l ++ 2 :: enc t
  | [], t => by simp [encL]
  | x :: r, t => by simp [encL, encL_snoc r t]
theorem encM_snoc : ∀ (ns : List ByteArray) (l : List JV) (n : ByteArray) (t : JV), ns.length = l.length → encM (ns ++ [n]) (l ++ [t]) = encM ns l ++ 2 :: (encT n.data.toList ++ enc t)
  | [], [], n, t, _ => by simp [encM]
  | m :: ns, x :: r, n, t, h => by simp [encM, encM_snoc ns r n t (by simpa using h)]
theorem encM_take : ∀ (ns : List ByteArray) (l : List JV), l.length ≤ ns.length → encM (ns.take l.length) l = encM ns l
  | ns, [], _ => by cases ns <;> simp [encM]
  | [], t :: r, h => by simp at h
  | n :: ns, t :: r, h => by simp [encM, encM_take ns r (by simpa using h)]
theorem bulks_take : ∀ (l : List JV) (j : Nat) (h : j < l.length), JV.bulks (l.take j) + l[j].bulk ≤ JV.bulks l
  | t :: r, 0, _ => by simp [JV.bulks]
  | t :: r, j + 1, h => by
    have := bulks_take r j (by simpa using h)
    simp only [List.take_succ_cons, JV.bulks, List.getElem_cons_succ]
    omega
theorem strs_take : ∀ (l : List ByteArray) (j : Nat) (h : j < l.length), strsBulk (l.take j) + l[j].size + 1 ≤ strsBulk l
  | t :: r, 0, _ => by simp [strsBulk]
  | t :: r, j + 1, h => by
    have := strs_take r j (by simpa using h)
    simp only [List.take_succ_cons, strsBulk, List.getElem_cons_succ]
    omega
theorem own_upd {w w' : World} {r r' : Option Nat} (hu : Upd w w' r r') : ∀ b, b < w.heap.size → r ≠ some b → r' ≠ some b ∧ w'.heap[b]? = w.heap[b]? := fun b hlt hb => by
  refine ⟨fun e => ?_, hu.block hlt hb⟩
  rcases hu.own with e2 | ⟨g, e2, hg⟩
  · exact hb (by rw [← e2]; exact e)
  · rw [e2] at e; have := Option.some.inj e; omega
/-- one byte more, at a step of a region that draws -/
theorem step_byte {ops : Array Oper} {o : Oper} {a : Act} {w : World} {K : Act → World → Prop} {Q : Exit → Act → World → Prop} {F : Prop} (hgd : o.guard = none) (s x : Operand)
    (ho : o.op = .call { callee := .builtin .append, args := #[s, x], argTypes := #[34, 34] })
    (v : Value) (l : List UInt8) (hs : a.eval s = v) (hown : Byts w v l) (g : Nat) (n : Int) (c : UInt8)
    (hx : a.eval x = .slice (some ⟨g, 0, none⟩) 1 1) (hnew : w.cell? ⟨g, 0, none⟩ = some (.int .u8 n)) (hc : n = (c.toNat : Int)) (hlen : l.length < 70368744177664)
    (h : ∀ v' w', Byts w' v' (l ++ [c]) → Upd w w' v.ownBlock v'.ownBlock → K (a.put o.dst v') w') : if Region.wanted o (yielded ops a.tmps) = true then Oper.wp Tryd.prog o a w K Q else F := by
  subst hc
  refine step_app bytTy hgd s x ho v l.length _ hs hown (some ⟨g, 0, none⟩) 1 1 [.int .u8 (c.toNat : Int)] hx rfl (by simp) ?_ (by simp [Value.oneCell']) (by unfold maxLen; omega) (by omega) ?_
  · intro p hp j u hj
    cases hp
    match j, hj with
    | 0, hj => simp at hj; subst hj; simpa [Addr.add] using hnew
  · intro v' w' h2 h3
    refine h v' w' ?_ h3
    unfold Byts
    simpa using h2
def LaidSaid (m : Nat) : Prop := ∀ (t : JV), t.size ≤ m → okT t → ∀ (cs : List Value) (w : World) (v : Value) (l : List UInt8), Rep w (fun b => v.ownBlock ≠ some b) t cs → Byts w v l → l.length + 10 * t.bulk < 17592186044416 →
    Calls Tryd.prog 43 #[v, .agg cs.toArray] w fun e w' => ∃ v', e = .returned v' ∧ Byts w' v' (l ++ enc t) ∧ Upd w w' v.ownBlock v'.ownBlock
set_option maxRecDepth 20000 in
set_option maxHeartbeats 8000000 in
theorem laid_step (m : Nat) (ih : LaidSaid m) : LaidSaid (m + 1) := by
  intro t hm hok cs w v l hr hv hl
  have hel := enc_len t
  cases t with
  | mk k n s ns is =>
  rw [rep_mk] at hr
  obtain ⟨hk, hn, hs, an, cn, ai, ci, rfl, hcn, hci, hst, hit⟩ := hr
  rw [okT] at hok
  have hvlt : v.ownBlock ≠ some w.heap.size := fun e => by have := Row.lt hv e; omega
  rcases (show k = 3 ∨ k ≠ 3 by omega) with rfl | h3
  · have := laidInt_c n hn s an ai ns.length cn is.length ci w v l hv (by omega)
    rw [enc, if_neg (by decide), if_neg (by decide), if_neg (by decide), if_pos rfl]
    exact this
  have hb0 : Below w.heap.size w (w.alloc (.cells #[.int .i64 k, .int .i64 n, .string s, .slice an ns.length cn, .slice ai is.length ci] 28)) := (Below.refl _ _).alloc (Nat.le_refl _) _
  have hv0 := byts_kept hv hb0
  have hu0 := Lib.hid (Upd.of_below hb0 v.ownBlock)
  obtain ⟨a0, a1, a2, a3, a4⟩ := cells5 w (.int .i64 k) (.int .i64 n) (.string s) (.slice an ns.length cn) (.slice ai is.length ci) 28
  rcases (show k = 0 ∨ k ≠ 0 by omega) with rfl | h0
  · have HE := Lib.hid (show enc (.mk 0 n s ns is) = [5] by rw [enc]; simp)
    have hb1 : Below ((w.alloc (.cells #[.int .i64 0, .int .i64 n, .string s, .slice an ns.length cn, .slice ai is.length ci] 28))).heap.size (w.alloc (.cells #[.int .i64 0, .int .i64 n, .string s, .slice an ns.length cn, .slice ai is.length ci] 28)) (((w.alloc (.cells #[.int .i64 0, .int .i64 n, .string s, .slice an ns.length cn, .slice ai is.length ci] 28))).alloc (.cells #[.int .u8 5] 5)) := (Below.refl _ _).alloc (Nat.le_refl _) _
    have hv1 := byts_kept hv0 hb1
    have hcell : (((w.alloc (.cells #[.int .i64 0, .int .i64 n, .string s, .slice an ns.length cn, .slice ai is.length ci] 28))).alloc (.cells #[.int .u8 5] 5)).cell? ⟨w.heap.size + 1, 0, none⟩ = some (.int .u8 5) := by simp [go_sem]
    clear hok hst hit hv
    go_enter Tryd.func43, Tryd.ntmps43
    go_wp2_with (at_builtin; refine wpList_byte rfl _ _ rfl v l rfl hv1 _ _ 5 rfl hcell rfl (by omega) ?_; intro v2 w2 hv2 hu2; have HR := Lib.hid (And.intro hv2 ((hu0.out.trans (Upd.of_below hb1 _)).trans hu2)))
    go_ret
    exact ⟨_, rfl, by rw [HE.out]; exact HR.out.1, HR.out.2⟩
  rcases (show k = 1 ∨ k ≠ 1 by omega) with rfl | h1
  · have HE := Lib.hid (show enc (.mk 1 n s ns is) = [80] by rw [enc]; simp)
    have hb1 : Below ((w.alloc (.cells #[.int .i64 1, .int .i64 n, .string s, .slice an ns.length cn, .slice ai is.length ci] 28))).heap.size (w.alloc (.cells #[.int .i64 1, .int .i64 n, .string s, .slice an ns.length cn, .slice ai is.length ci] 28)) (((w.alloc (.cells #[.int .i64 1, .int .i64 n, .string s, .slice an ns.length cn, .slice ai is.length ci] 28))).alloc (.cells #[.int .u8 80] 5)) := (Below.refl _ _).alloc (Nat.le_refl _) _
    have hv1 := byts_kept hv0 hb1
    have hcell : (((w.alloc (.cells #[.int .i64 1, .int .i64 n, .string s, .slice an ns.length cn, .slice ai is.length ci] 28))).alloc (.cells #[.int .u8 80] 5)).cell? ⟨w.heap.size + 1, 0, none⟩ = some (.int .u8 80) := by simp [go_sem]
    clear hok hst hit hv
    go_enter Tryd.func43, Tryd.ntmps43
    go_wp2_with (at_builtin; refine wpList_byte rfl _ _ rfl v l rfl hv1 _ _ 80 rfl hcell rfl (by omega) ?_; intro v2 w2 hv2 hu2; have HR := Lib.hid (And.intro hv2 ((hu0.out.trans (Upd.of_below hb1 _)).trans hu2)))
    go_ret
    exact ⟨_, rfl, by rw [HE.out]; exact HR.out.1, HR.out.2⟩
  rcases (show k = 2 ∨ k ≠ 2 by omega) with rfl | h2
  · have HE := Lib.hid (show enc (.mk 2 n s ns is) = [81] by rw [enc]; simp)
    have hb1 : Below ((w.alloc (.cells #[.int .i64 2, .int .i64 n, .string s, .slice an ns.length cn, .slice ai is.length ci] 28))).heap.size (w.alloc (.cells #[.int .i64 2, .int .i64 n, .string s, .slice an ns.length cn, .slice ai is.length ci] 28)) (((w.alloc (.cells #[.int .i64 2, .int .i64 n, .string s, .slice an ns.length cn, .slice ai is.length ci] 28))).alloc (.cells #[.int .u8 81] 5)) := (Below.refl _ _).alloc (Nat.le_refl _) _
    have hv1 := byts_kept hv0 hb1
    have hcell : (((w.alloc (.cells #[.int .i64 2, .int .i64 n, .string s, .slice an ns.length cn, .slice ai is.length ci] 28))).alloc (.cells #[.int .u8 81] 5)).cell? ⟨w.heap.size + 1, 0, none⟩ = some (.int .u8 81) := by simp [go_sem]
    clear hok hst hit hv
    go_enter Tryd.func43, Tryd.ntmps43
    go_wp2_with (at_builtin; refine wpList_byte rfl _ _ rfl v l rfl hv1 _ _ 81 rfl hcell rfl (by omega) ?_; intro v2 w2 hv2 hu2; have HR := Lib.hid (And.intro hv2 ((hu0.out.trans (Upd.of_below hb1 _)).trans hu2)))
    go_ret
    exact ⟨_, rfl, by rw [HE.out]; exact HR.out.1, HR.out.2⟩
  rcases (show k = 4 ∨ k ≠ 4 by omega) with rfl | h4
  · have HE := Lib.hid (show enc (.mk 4 n s ns is) = 32 :: encT s.data.toList by rw [enc]; simp)
    have hb1 : Below ((w.alloc (.cells #[.int .i64 4, .int .i64 n, .string s, .slice an ns.length cn, .slice ai is.length ci] 28))).heap.size (w.alloc (.cells #[.int .i64 4, .int .i64 n, .string s, .slice an ns.length cn, .slice ai is.length ci] 28)) (((w.alloc (.cells #[.int .i64 4, .int .i64 n, .string s, .slice an ns.length cn, .slice ai is.length ci] 28))).alloc (.cells #[.int .u8 32] 5)) := (Below.refl _ _).alloc (Nat.le_refl _) _
    have hv1 := byts_kept hv0 hb1
    have hcell : (((w.alloc (.cells #[.int .i64 4, .int .i64 n, .string s, .slice an ns.length cn, .slice ai is.length ci] 28))).alloc (.cells #[.int .u8 32] 5)).cell? ⟨w.heap.size + 1, 0, none⟩ = some (.int .u8 32) := by simp [go_sem]
    have hsz : s.size < 17592186044416 := by rw [JV.bulk] at hl; omega
    clear hok hst hit hv
    go_enter Tryd.func43, Tryd.ntmps43
    go_wp2_with fail
    have a2d : ((w.alloc (.cells #[.int .i64 4, .int .i64 n, .string s, .slice an ns.length cn, .slice ai is.length ci] 28))).drew.cell? ⟨w.heap.size, 2, none⟩ = some (.string s) := a2
    have A2 := cell_below (Below.drew hb1) a2
    have hv1d : Byts (((w.alloc (.cells #[.int .i64 4, .int .i64 n, .string s, .slice an ns.length cn, .slice ai is.length ci] 28))).alloc (.cells #[.int .u8 32] 5)).drew v l := hv1
    have hcelld : (((w.alloc (.cells #[.int .i64 4, .int .i64 n, .string s, .slice an ns.length cn, .slice ai is.length ci] 28))).alloc (.cells #[.int .u8 32] 5)).drew.cell? ⟨w.heap.size + 1, 0, none⟩ = some (.int .u8 32) := hcell
    have HU1 := Lib.hid ((hu0.out.trans (Upd.of_below (Below.drew hb1) v.ownBlock)))
    clear hb1 hb0 hv1 hv0
    go_region_law (first
      | (refine step_byte (by rfl) _ _ (by rfl) v l (by rfl) hv1d _ _ 32 (by rfl) hcelld rfl (by omega) ?_; intro v2 w2 hv2 hu2; have r2 := hu2.cell A2 hvlt)
      | (go_simp; go_at_call 61; refine (text_c v2 (l ++ [32]) s w2 hv2 (by rw [List.length_append]; simp; omega) hsz).mono ?_; rintro e w3 ⟨v3, rfl, hv3, hu3⟩))
    all_goals have HR := Lib.hid (And.intro hv3 ((HU1.out.trans hu2).trans hu3))
    all_goals clear hv3 hu3 hu2 hv2 r2 A2 a2d hv1d hcelld
    all_goals go_wp2
    all_goals go_ret
    all_goals exact ⟨_, rfl, by have h9 := HR.out.1; rw [HE.out]; rw [List.append_assoc] at h9; exact h9, HR.out.2⟩
  rcases (show k = 6 ∨ k ≠ 6 by omega) with rfl | h6
  · have HE := Lib.hid (show enc (.mk 6 n s ns is) = 48 :: (encM ns is ++ [1]) by rw [enc]; simp)
    have hni := hok.1 rfl
    rw [HE.out] at hel
    have hbl : l.length + (encM ns is).length + 2 < 17592186044416 := by simp only [List.length_cons, List.length_append, List.length_nil] at hel; omega
    rw [JV.bulk] at hl
    have HIH := Lib.hid ih
    have hok2 := Lib.hid hok.2
    have HSZ := Lib.hid (show ∀ t ∈ is, t.size ≤ m from fun t ht => by have h1 := JV.size_le ht; rw [JV.size] at hm; omega)
    have HIT := Lib.hid (hit.below hb0)
    have HST := Lib.hid (hst.below hb0)
    unfold maxLen at hci hcn
    have hb1 : Below ((w.alloc (.cells #[.int .i64 6, .int .i64 n, .string s, .slice an ns.length cn, .slice ai is.length ci] 28))).heap.size (w.alloc (.cells #[.int .i64 6, .int .i64 n, .string s, .slice an ns.length cn, .slice ai is.length ci] 28)) (((w.alloc (.cells #[.int .i64 6, .int .i64 n, .string s, .slice an ns.length cn, .slice ai is.length ci] 28))).alloc (.cells #[.int .u8 48] 5)) := (Below.refl _ _).alloc (Nat.le_refl _) _
    have hv1 := byts_kept hv0 hb1
    have hcell : (((w.alloc (.cells #[.int .i64 6, .int .i64 n, .string s, .slice an ns.length cn, .slice ai is.length ci] 28))).alloc (.cells #[.int .u8 48] 5)).cell? ⟨w.heap.size + 1, 0, none⟩ = some (.int .u8 48) := by simp [go_sem]
    have A4 := cell_below hb1 a4
    have HB1 := Lib.hid hb1
    clear hok hst hit hv hb0 hb1 hv0 ih
    go_enter Tryd.func43, Tryd.ntmps43
    go_wp2_with (at_builtin; refine wpList_byte rfl _ _ rfl v l rfl hv1 _ _ 48 rfl hcell rfl (by omega) ?_; intro v2 w2 hv2 hu2; have HU := Lib.hid ((Upd.of_below HB1.out _).trans hu2); have HV := Lib.hid hv2; have r4 := hu2.cell A4 hvlt; clear hv2 hu2 hv1 hcell A4)
    go_loopw [0, 67] (fun b i wr => ∃ j : Nat, j ≤ is.length ∧ i = .int .i64 j ∧ Byts wr b (l ++ 48 :: encM (ns.take j) (is.take j)) ∧ Hid (Upd (w.alloc (.cells #[.int .i64 6, .int .i64 n, .string s, .slice an ns.length cn, .slice ai is.length ci] 28)) wr v.ownBlock b.ownBlock)) (fun _ i _ => is.length - (intOf i).toNat)
    case atStart => exact ⟨0, by omega, rfl, by have := HV.out; simpa [encL, encM] using this, HU⟩
    case round =>
      clear HV HU r4
      obtain ⟨j, hj, rfl, hv, HU⟩ := hrel
      have HIW := Lib.hid (HIT.out.kept (own_upd HU.out))
      by_cases hlt : j < is.length
      · rcases HIW.out with rfl | ⟨bI, oI, rfl, hoI, hall⟩
        · simp at hlt
        have k0 := HU.out.cell a0 hvlt
        have hltN : j < ns.length := by omega
        have k3 := HU.out.cell a3 hvlt
        have hpn := strs_take ns j hltN
        obtain ⟨bN, oN, hN1, hN2, hN3⟩ : ∃ bN oN, an = some ⟨bN, oN, none⟩ ∧ u0.ownBlock ≠ some bN ∧ wr.cell? ⟨bN, oN + j, none⟩ = some (.string ns[j]) := by
          rcases HST.out.kept (own_upd HU.out) with rfl | ⟨b, o, h1, h2, h3⟩
          · exact absurd hltN (by simp)
          · exact ⟨b, o, h1, h2, h3 j _ (by simp [hltN])⟩
        subst hN1
        obtain ⟨cs, hrj, hlj⟩ := hall.at j hlt
        have hoj := okTs_at hok2.out j hlt
        have hszj := HSZ.out is[j] (List.getElem_mem hlt)
        have hbj := JV.bulk_le (List.getElem_mem hlt)
        obtain ⟨xan, xcn, xai, xci, rfl⟩ := hrj.form
        obtain ⟨l0, l1, l2, l3, l4⟩ := lie5 hlj
        have HS := Lib.hid (show encM (ns.take (j + 1)) (is.take (j + 1)) = encM (ns.take j) (is.take j) ++ 2 :: (encT ns[j].data.toList ++ enc is[j]) by rw [List.take_succ_eq_append_getElem hlt, List.take_succ_eq_append_getElem (show j < ns.length by omega), encM_snoc _ _ _ _ (by simp; omega)])
        have hpl : (encM (ns.take j) (is.take j)).length ≤ 10 * strsBulk (ns.take j) + 10 * JV.bulks (is.take j) := encM_len _ _
        have hbt := bulks_take is j hlt
        have HLT := Lib.hid hlt
        clear hall hlj
        generalize is[j] = x at *
        generalize ns[j] = nm at *
        generalize encM (ns.take j) (is.take j) = pt at *
        have hbx : Below wr.heap.size wr (wr.alloc (.cells #[.int .i64 x.kind, .int .i64 x.int, .string x.text, .slice xan x.names.length xcn, .slice xai x.items.length xci] 28)) := (Below.refl _ _).alloc (Nat.le_refl _) _
        have hby : Below ((wr.alloc (.cells #[.int .i64 x.kind, .int .i64 x.int, .string x.text, .slice xan x.names.length xcn, .slice xai x.items.length xci] 28))).heap.size (wr.alloc (.cells #[.int .i64 x.kind, .int .i64 x.int, .string x.text, .slice xan x.names.length xcn, .slice xai x.items.length xci] 28)) (((wr.alloc (.cells #[.int .i64 x.kind, .int .i64 x.int, .string x.text, .slice xan x.names.length xcn, .slice xai x.items.length xci] 28))).alloc (.cells #[.int .u8 2] 5)) := (Below.refl _ _).alloc (Nat.le_refl _) _
        have hbz := below_trans hbx hby
        have hvz := byts_kept hv hbz
        have hown : u0.ownBlock ≠ some wr.heap.size := fun e => by have := Row.lt hv e; omega
        have hcell : (((wr.alloc (.cells #[.int .i64 x.kind, .int .i64 x.int, .string x.text, .slice xan x.names.length xcn, .slice xai x.items.length xci] 28))).alloc (.cells #[.int .u8 2] 5)).cell? ⟨wr.heap.size + 1, 0, none⟩ = some (.int .u8 2) := by simp [go_sem]
        obtain ⟨x0, x1, x2, x3, x4⟩ := cells5 wr (.int .i64 x.kind) (.int .i64 x.int) (.string x.text) (.slice xan x.names.length xcn) (.slice xai x.items.length xci) 28
        have X0 := cell_below hby x0
        have X1 := cell_below hby x1
        have X2 := cell_below hby x2
        have X3 := cell_below hby x3
        have X4 := cell_below hby x4
        have K0 := cell_below hbz k0
        have K3 := cell_below hbz k3
        have N1 := cell_below hbz hN3
        clear k3 hN3
        have HBZ := Lib.hid (Upd.of_below hbz u0.ownBlock)
        have HRJ := Lib.hid hrj
        have hmn : v.ownBlock ≠ some w.heap.size → u0.ownBlock ≠ some w.heap.size := fun h => (own_upd HU.out w.heap.size (by simp only [World.size_alloc]; omega) h).1
        have hun := hmn hvlt
        clear x0 x1 x2 x3 x4 hbx hby hbz hmn k0 hrj
        go_wp2_with (at_builtin; refine wpList_byte rfl _ _ rfl u0 (l ++ 48 :: pt) rfl hvz _ _ 2 rfl hcell rfl (by simp only [List.length_append, List.length_cons]; omega) ?_; intro v3 w3 hv3 hu3; have Y0 := hu3.cell X0 hown; have Y1 := hu3.cell X1 hown; have Y2 := hu3.cell X2 hown; have Y3 := hu3.cell X3 hown; have Y4 := hu3.cell X4 hown; have Z0 := hu3.cell K0 hun; have N2 := hu3.cell N1 hN2; have Z3 := hu3.cell K3 hun; have HU3 := Lib.hid (HBZ.out.trans hu3); have HV3 := Lib.hid hv3; have hv3n := (own_upd hu3 wr.heap.size (by simp only [World.size_alloc]; omega) hown).1; clear X0 X1 X2 X3 X4 K0 hcell hvz)
        have htx := text_c v3 (l ++ 48 :: pt ++ [2]) nm w3 HV3.out (by simp only [List.length_append, List.length_cons, List.length_nil]; omega) (by omega)
        refine htx.mono ?_; rintro e w4 ⟨v4, rfl, hv4, hu4⟩
        have V0 := hu4.cell Y0 hv3n
        have V1 := hu4.cell Y1 hv3n
        have V2 := hu4.cell Y2 hv3n
        have V3 := hu4.cell Y3 hv3n
        have V4 := hu4.cell Y4 hv3n
        have hlen4 := encT_len nm.data.toList
        have hnm : nm.data.toList.length = nm.size := by simp
        have HU4 := Lib.hid (HU3.out.trans hu4)
        have hla := HIH.out x hszj hoj _ w4 v4 (l ++ 48 :: pt ++ [2] ++ encT nm.data.toList) (Rep.kept (own_upd HU4.out) _ _ HRJ.out) hv4 (by simp only [List.length_append, List.length_cons, List.length_nil]; omega)
        clear htx Y0 Y1 Y2 Y3 Y4 Z0 Z3 N2 hv4 hu4
        go_wp2_with fail
        refine hla.mono ?_; rintro e w5 ⟨v5, rfl, hv5, hu5⟩
        have HR5 := Lib.hid (And.intro hv5 (HU.out.trans (HU4.out.trans hu5)))
        clear hla hv5 hu5 V0 V1 V2 V3 V4
        go_wp2
        go_roundw
        case rel => exact ⟨j + 1, HLT.out, by go_num, by have h9 := HR5.out.1; rw [HS.out]; simpa [List.append_assoc] using h9, Lib.hid HR5.out.2⟩
        case measure => have := HLT.out; simp [intOf]; omega
      · obtain rfl : j = is.length := by omega
        have hte : encM (ns.take is.length) (is.take is.length) = encM ns is := by rw [List.take_length]; exact encM_take ns is hni
        rw [hte] at hv
        clear hte HIW
        have hb1 : Below wr.heap.size wr (wr.alloc (.cells #[.int .u8 1] 5)) := (Below.refl _ _).alloc (Nat.le_refl _) _
        have hv2 := byts_kept hv hb1
        have hcell : (wr.alloc (.cells #[.int .u8 1] 5)).cell? ⟨wr.heap.size, 0, none⟩ = some (.int .u8 1) := by simp [go_sem]
        go_wp2_with (at_builtin; refine wpList_byte rfl _ _ rfl u0 _ rfl hv2 _ _ 1 rfl hcell rfl (by simp only [List.length_append, List.length_cons]; omega) ?_; intro v3 w3 hv3 hu3; have HR3 := Lib.hid (And.intro hv3 (hu0.out.trans (HU.out.trans ((Upd.of_below hb1 _).trans hu3)))))
        go_ret
        exact ⟨_, rfl, by have h9 := HR3.out.1; rw [HE.out]; simpa [List.append_assoc] using h9, HR3.out.2⟩
  · have HE := Lib.hid (show enc (.mk k n s ns is) = 64 :: (encL is ++ [1]) by rw [enc, if_neg h0, if_neg h1, if_neg h2, if_neg h3, if_neg h4, if_neg h6])
    have b0 : (k == 0) = false := by simp [h0]
    have b1 : (k == 1) = false := by simp [h1]
    have b2 : (k == 2) = false := by simp [h2]
    have b3 : (k == 3) = false := by simp [h3]
    have b4 : (k == 4) = false := by simp [h4]
    have b6 : (k == 6) = false := by simp [h6]
    rw [HE.out] at hel
    have hbl : l.length + (encL is).length + 2 < 17592186044416 := by simp only [List.length_cons, List.length_append, List.length_nil] at hel; omega
    rw [JV.bulk] at hl
    have HIH := Lib.hid ih
    have hok2 := Lib.hid hok.2
    have HSZ := Lib.hid (show ∀ t ∈ is, t.size ≤ m from fun t ht => by have h1 := JV.size_le ht; rw [JV.size] at hm; omega)
    have HIT := Lib.hid (hit.below hb0)
    have HST := Lib.hid (hst.below hb0)
    unfold maxLen at hci hcn
    have hb1 : Below ((w.alloc (.cells #[.int .i64 k, .int .i64 n, .string s, .slice an ns.length cn, .slice ai is.length ci] 28))).heap.size (w.alloc (.cells #[.int .i64 k, .int .i64 n, .string s, .slice an ns.length cn, .slice ai is.length ci] 28)) (((w.alloc (.cells #[.int .i64 k, .int .i64 n, .string s, .slice an ns.length cn, .slice ai is.length ci] 28))).alloc (.cells #[.int .u8 64] 5)) := (Below.refl _ _).alloc (Nat.le_refl _) _
    have hv1 := byts_kept hv0 hb1
    have hcell : (((w.alloc (.cells #[.int .i64 k, .int .i64 n, .string s, .slice an ns.length cn, .slice ai is.length ci] 28))).alloc (.cells #[.int .u8 64] 5)).cell? ⟨w.heap.size + 1, 0, none⟩ = some (.int .u8 64) := by simp [go_sem]
    have A4 := cell_below hb1 a4
    have HB1 := Lib.hid hb1
    clear hok hst hit hv hb0 hb1 hv0 ih
    go_enter Tryd.func43, Tryd.ntmps43
    go_wp2_with (at_builtin; refine wpList_byte rfl _ _ rfl v l rfl hv1 _ _ 64 rfl hcell rfl (by omega) ?_; intro v2 w2 hv2 hu2; have HU := Lib.hid ((Upd.of_below HB1.out _).trans hu2); have HV := Lib.hid hv2; have r4 := hu2.cell A4 hvlt; clear hv2 hu2 hv1 hcell A4)
    go_loopw [0, 67] (fun b i wr => ∃ j : Nat, j ≤ is.length ∧ i = .int .i64 j ∧ Byts wr b (l ++ 64 :: encL (is.take j)) ∧ Hid (Upd (w.alloc (.cells #[.int .i64 k, .int .i64 n, .string s, .slice an ns.length cn, .slice ai is.length ci] 28)) wr v.ownBlock b.ownBlock)) (fun _ i _ => is.length - (intOf i).toNat)
    case atStart => exact ⟨0, by omega, rfl, by have := HV.out; simpa [encL, encM] using this, HU⟩
    case round =>
      clear HV HU r4
      obtain ⟨j, hj, rfl, hv, HU⟩ := hrel
      have HIW := Lib.hid (HIT.out.kept (own_upd HU.out))
      by_cases hlt : j < is.length
      · rcases HIW.out with rfl | ⟨bI, oI, rfl, hoI, hall⟩
        · simp at hlt
        have k0 := HU.out.cell a0 hvlt
        obtain ⟨cs, hrj, hlj⟩ := hall.at j hlt
        have hoj := okTs_at hok2.out j hlt
        have hszj := HSZ.out is[j] (List.getElem_mem hlt)
        have hbj := JV.bulk_le (List.getElem_mem hlt)
        obtain ⟨xan, xcn, xai, xci, rfl⟩ := hrj.form
        obtain ⟨l0, l1, l2, l3, l4⟩ := lie5 hlj
        have HS := Lib.hid (show encL (is.take (j + 1)) = encL (is.take j) ++ 2 :: enc is[j] by rw [List.take_succ_eq_append_getElem hlt, encL_snoc])
        have hpl : (encL (is.take j)).length ≤ 10 * JV.bulks (is.take j) := encL_len _
        have hbt := bulks_take is j hlt
        have HLT := Lib.hid hlt
        clear hall hlj
        generalize is[j] = x at *
        generalize encL (is.take j) = pt at *
        have hbx : Below wr.heap.size wr (wr.alloc (.cells #[.int .i64 x.kind, .int .i64 x.int, .string x.text, .slice xan x.names.length xcn, .slice xai x.items.length xci] 28)) := (Below.refl _ _).alloc (Nat.le_refl _) _
        have hby : Below ((wr.alloc (.cells #[.int .i64 x.kind, .int .i64 x.int, .string x.text, .slice xan x.names.length xcn, .slice xai x.items.length xci] 28))).heap.size (wr.alloc (.cells #[.int .i64 x.kind, .int .i64 x.int, .string x.text, .slice xan x.names.length xcn, .slice xai x.items.length xci] 28)) (((wr.alloc (.cells #[.int .i64 x.kind, .int .i64 x.int, .string x.text, .slice xan x.names.length xcn, .slice xai x.items.length xci] 28))).alloc (.cells #[.int .u8 2] 5)) := (Below.refl _ _).alloc (Nat.le_refl _) _
        have hbz := below_trans hbx hby
        have hvz := byts_kept hv hbz
        have hown : u0.ownBlock ≠ some wr.heap.size := fun e => by have := Row.lt hv e; omega
        have hcell : (((wr.alloc (.cells #[.int .i64 x.kind, .int .i64 x.int, .string x.text, .slice xan x.names.length xcn, .slice xai x.items.length xci] 28))).alloc (.cells #[.int .u8 2] 5)).cell? ⟨wr.heap.size + 1, 0, none⟩ = some (.int .u8 2) := by simp [go_sem]
        obtain ⟨x0, x1, x2, x3, x4⟩ := cells5 wr (.int .i64 x.kind) (.int .i64 x.int) (.string x.text) (.slice xan x.names.length xcn) (.slice xai x.items.length xci) 28
        have X0 := cell_below hby x0
        have X1 := cell_below hby x1
        have X2 := cell_below hby x2
        have X3 := cell_below hby x3
        have X4 := cell_below hby x4
        have K0 := cell_below hbz k0
        have HBZ := Lib.hid (Upd.of_below hbz u0.ownBlock)
        have HRJ := Lib.hid hrj
        have hmn : v.ownBlock ≠ some w.heap.size → u0.ownBlock ≠ some w.heap.size := fun h => (own_upd HU.out w.heap.size (by simp only [World.size_alloc]; omega) h).1
        have hun := hmn hvlt
        clear x0 x1 x2 x3 x4 hbx hby hbz hmn k0 hrj
        go_wp2_with (at_builtin; refine wpList_byte rfl _ _ rfl u0 (l ++ 64 :: pt) rfl hvz _ _ 2 rfl hcell rfl (by simp only [List.length_append, List.length_cons]; omega) ?_; intro v3 w3 hv3 hu3; have Y0 := hu3.cell X0 hown; have Y1 := hu3.cell X1 hown; have Y2 := hu3.cell X2 hown; have Y3 := hu3.cell X3 hown; have Y4 := hu3.cell X4 hown; have Z0 := hu3.cell K0 hun; have HU3 := Lib.hid (HBZ.out.trans hu3); have HV3 := Lib.hid hv3; have hv3n := (own_upd hu3 wr.heap.size (by simp only [World.size_alloc]; omega) hown).1; clear X0 X1 X2 X3 X4 K0 hcell hvz)
        have hla := HIH.out x hszj hoj _ w3 v3 (l ++ 64 :: pt ++ [2]) (Rep.kept (own_upd HU3.out) _ _ HRJ.out) HV3.out (by simp only [List.length_append, List.length_cons, List.length_nil]; omega)
        refine hla.mono ?_; rintro e w5 ⟨v5, rfl, hv5, hu5⟩
        have HR5 := Lib.hid (And.intro hv5 (HU.out.trans (HU3.out.trans hu5)))
        clear hla hv5 hu5 Y0 Y1 Y2 Y3 Y4 Z0
        go_wp2
        go_roundw
        case rel => exact ⟨j + 1, HLT.out, by go_num, by have h9 := HR5.out.1; rw [HS.out]; simpa [List.append_assoc] using h9, Lib.hid HR5.out.2⟩
        case measure => have := HLT.out; simp [intOf]; omega
      · obtain rfl : j = is.length := by omega
        have hte : encL (is.take is.length) = encL is := by rw [List.take_length]
        rw [hte] at hv
        clear hte HIW
        have hb1 : Below wr.heap.size wr (wr.alloc (.cells #[.int .u8 1] 5)) := (Below.refl _ _).alloc (Nat.le_refl _) _
        have hv2 := byts_kept hv hb1
        have hcell : (wr.alloc (.cells #[.int .u8 1] 5)).cell? ⟨wr.heap.size, 0, none⟩ = some (.int .u8 1) := by simp [go_sem]
        go_wp2_with (at_builtin; refine wpList_byte rfl _ _ rfl u0 _ rfl hv2 _ _ 1 rfl hcell rfl (by simp only [List.length_append, List.length_cons]; omega) ?_; intro v3 w3 hv3 hu3; have HR3 := Lib.hid (And.intro hv3 (hu0.out.trans (HU.out.trans ((Upd.of_below hb1 _).trans hu3)))))
        go_ret
        exact ⟨_, rfl, by have h9 := HR3.out.1; rw [HE.out]; simpa [List.append_assoc] using h9, HR3.out.2⟩
theorem laid_all (m : Nat) : LaidSaid m := by
  induction m with
  | zero => intro t hm; have := JV.size_pos t; omega
  | succ m ih => exact laid_step m ih
theorem laid_c (t : JV) (hok : okT t) (cs : List Value) (w : World) (v : Value) (l : List UInt8) (hr : Rep w (fun b => v.ownBlock ≠ some b) t cs) (hv : Byts w v l) (hl : l.length + 10 * t.bulk < 17592186044416) :
    Calls Tryd.prog 43 #[v, .agg cs.toArray] w fun e w' => ∃ v', e = .returned v' ∧ Byts w' v' (l ++ enc t) ∧ Upd w w' v.ownBlock v'.ownBlock :=
  laid_all t.size t (Nat.le_refl _) hok cs w v l hr hv hl
end Go.Proofs.YtjmhoccikbgigaaDoor
