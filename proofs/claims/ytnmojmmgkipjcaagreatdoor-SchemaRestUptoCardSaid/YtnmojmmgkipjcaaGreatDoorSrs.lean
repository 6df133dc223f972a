/- The walk of the program's reader of one schema. Conditions: what the tree holds is at most 2 to the 40. -/
import Derived.Test.YtnmojmmgkipjcaaGreatDoorReada
namespace Go.Proofs.YtnmojmmgkipjcaaGreatDoor
open Go.RowKit
theorem namTy : SlTy Tryz.prog 64 70 (.agg #[.string ByteArray.empty, .nilIface]) 2 32 := ⟨by kernel_rfl, by kernel_rfl, by kernel_rfl, by decide⟩
/-- a schema's struct, under way -/
structure ScAt (w0 : World) (ok : Nat → Prop) (S lo : Nat) (is : List JV) (ns : List ByteArray) (kn : JV) (v : Value) (xs : List Value) (wr : World) : Prop where
  blk : wr.heap[S]? = some (.cells #[v, .int .i64 0] 66 (0, 0))
  ge : w0.heap.size ≤ S
  slo : S < lo
  row : Row wr 70 2 v is.length xs
  own : ∀ g, v.ownBlock = some g → lo ≤ g
  rules : RulesV wr (OkE ok w0.heap.size (fun b => v.ownBlock = some b ∨ b = S)) is ns kn xs
theorem ScAt.cells {w0 wr : World} {ok : Nat → Prop} {S lo : Nat} {is : List JV} {ns : List ByteArray} {kn : JV} {v : Value} {xs : List Value} (h : ScAt w0 ok S lo is ns kn v xs wr) :
    (wr.cell? ⟨S, 0, none⟩ = some v ∧ wr.cell? ⟨S, 1, none⟩ = some (.int .i64 0)) ∧ (wr.frozen? ⟨S, 0, none⟩ = false ∧ wr.frozen? ⟨S, 1, none⟩ = false) ∧ S < wr.heap.size :=
  ⟨⟨cell_of_row _ _ _ _ _ _ h.blk, cell_of_row _ _ _ _ _ _ h.blk⟩, ⟨frozen_of_row _ _ _ _ _ h.blk, frozen_of_row _ _ _ _ _ h.blk⟩, (Array.getElem?_eq_some_iff.1 h.blk).1⟩
theorem ScAt.move {w0 wr w' : World} {ok : Nat → Prop} {S lo : Nat} {is : List JV} {ns : List ByteArray} {kn : JV} {v : Value} {xs : List Value} {R : Nat} (h : ScAt w0 ok S lo is ns kn v xs wr) (hu : Upd wr w' (some R) (some R)) (hR : R < w0.heap.size) (hok : ¬ ok R) : ScAt w0 ok S lo is ns kn v xs w' :=
  ⟨(hu.block h.cells.2.2 (fun e => by injection e with e; have := h.ge; omega)).trans h.blk, h.ge, h.slo, h.row.kept hu (.inr (fun e => by have := h.own R e; have := h.ge; have := h.slo; omega)), h.own,
    keepE (rules_keeps is ns kn xs) h.rules hu (fun g e => by injection e with e; subst e; exact .inr ⟨hR, hok⟩) (fun _ _ h => h)⟩
theorem ScAt.below {w0 wr w' : World} {ok : Nat → Prop} {S lo : Nat} {is : List JV} {ns : List ByteArray} {kn : JV} {v : Value} {xs : List Value} (h : ScAt w0 ok S lo is ns kn v xs wr) (hb : Below wr.heap.size wr w') : ScAt w0 ok S lo is ns kn v xs w' :=
  ⟨(hb.block S h.cells.2.2).trans h.blk, h.ge, h.slo, h.row.below hb, h.own, keepE (rules_keeps is ns kn xs) h.rules (Upd.of_below hb none) (fun g e => by cases e) (fun _ _ h => h)⟩
/-- one rule more: made behind wp -/
theorem ScAt.item {w0 wp wv wa w' : World} {ok : Nat → Prop} {S lo : Nat} {is : List JV} {ns : List ByteArray} {kn : JV} {v v' : Value} {xs : List Value} {x : JV} {n : ByteArray} {rv : Value} (h : ScAt w0 ok S lo is ns kn v xs wv) (hl : is.length = ns.length) (h0 : w0.heap.size ≤ wp.heap.size) (hlo : lo ≤ wp.heap.size)
    (hp : ∀ b, (v.ownBlock = some b ∨ b = S) → b < wp.heap.size) (hpv : wp.heap.size ≤ wv.heap.size) (hq : RuleAt wv (OkN (OkE ok w0.heap.size (fun b => v.ownBlock = some b ∨ b = S)) wp) x n kn rv) (ha : Below wv.heap.size wv wa)
    (hr : Row w' 70 2 v' (is.length + 1) (xs ++ [.string n, rv])) (hu : Upd wa w' v.ownBlock v'.ownBlock) :
    ScAt w0 ok S lo (is ++ [x]) (ns ++ [n]) kn v' (xs ++ [.string n, rv]) (w'.setCell ⟨S, 0, none⟩ v') ∧ Below w0.heap.size wv (w'.setCell ⟨S, 0, none⟩ v') ∧ ∀ b, b < lo → b ≠ S → (w'.setCell ⟨S, 0, none⟩ v').heap[b]? = wv.heap[b]? := by
  have hA := h.below ha
  have hPl := hA.cells.2.2
  have hs0 := ha.size
  have hge := h.ge
  have hslo := h.slo
  have hnS : v.ownBlock ≠ some S := fun e => by have := h.own S e; omega
  have hb' : w'.heap[S]? = some (.cells #[v, .int .i64 0] 66 (0, 0)) := (hu.block hPl hnS).trans hA.blk
  have hs : Upd w' (w'.setCell ⟨S, 0, none⟩ v') (some S) (some S) := Upd.of_setCell _ _ _
  have hn' : ∀ g, v'.ownBlock = some g → lo ≤ g := fun g hg => by
    rcases own_or hu g hg with h1 | h1
    · exact h.own g h1
    · omega
  refine ⟨⟨heap_setCell_same w' S 0 _ _ _ hb', h.ge, h.slo, ?_, hn', ?_⟩, ((ha.mono (by omega)).trans (hu.below (by omega) (fun g e => by have := h.own g e; omega))).trans (hs.below (by have := hu.grown.size; omega) (fun g e => by injection e with e; omega)), fun b hb hbS => ?_⟩
  · rw [List.length_append]
    exact hr.kept hs (.inr (fun e => by have := hn' S e; omega))
  · refine keepE (F := fun b => v'.ownBlock = some b ∨ b = S) (rules_keeps _ _ _ _) (keepE (F := fun b => v.ownBlock = some b ∨ b = S) (rules_keeps _ _ _ _) (RulesV.snoc ?_ hl hA.rules) hu (fun g e => .inl ⟨.inl e, by have := h.own g e; omega⟩) (fun b hb hf => ?_)) hs (fun g e => by injection e with e; subst e; exact .inl ⟨.inr rfl, h.ge⟩) (fun _ _ hf => hf)
    · refine rule_keeps x n kn rv _ _ _ _ (fun b hlt ho => ⟨?_, ha.block b hlt⟩) hq
      rcases ho with ho | ho
      · exact ho
      · exact .inr ⟨by omega, fun hf => by have := hp b hf; omega⟩
    · rcases hf with hf | hf
      · rcases own_or hu b hf with h1 | h1
        · exact .inl h1
        · omega
      · exact .inr hf
  · have hbw : b < wv.heap.size := by omega
    rw [hs.block (by have := hu.grown.size; omega) (fun e => by injection e with e; exact hbS e.symm), hu.block (by omega) (fun e => by have := h.own b e; omega)]
    exact ha.block b hbw
/-- at the end: the schema -/
theorem ScAt.done {w0 w wr : World} {ok : Nat → Prop} {S lo : Nat} {k i : Int} {s : ByteArray} {is : List JV} {ns : List ByteArray} {v : Value} {xs : List Value} (h : ScAt w0 ok S lo is ns (knownJ ns is) v xs wr) (hw : w.heap.size ≤ w0.heap.size) (q : Nat) :
    SchAt (wr.setCell ⟨S, 1, none⟩ (.int .i64 (q : Int))) (OkN ok w) (.mk k i s ns is) (.pointer (some ⟨S, 0, none⟩)) := by
  have hs : Upd wr (wr.setCell ⟨S, 1, none⟩ (.int .i64 (q : Int))) (some S) (some S) := Upd.of_setCell _ _ _
  have hge := h.ge
  have hslo := h.slo
  have hrow := h.row.kept hs (.inr (fun e => by have := h.own S e; omega))
  have hr2 : RulesV (wr.setCell ⟨S, 1, none⟩ (.int .i64 (q : Int))) (OkN ok w) is ns (knownJ ns is) xs :=
    okn_mono (w1 := w0) (rules_keeps is ns (knownJ ns is) xs) (ofE (rules_keeps is ns (knownJ ns is) xs) (keepE (rules_keeps is ns (knownJ ns is) xs) h.rules hs (fun g e => by injection e with e; subst e; exact .inl ⟨.inr rfl, h.ge⟩) (fun _ _ hf => hf))) hw
  obtain ⟨a, c, e, h1, h2, h3⟩ := hrow.form
  subst e
  rw [SchAt]
  refine ⟨S, a, c, q, rfl, .inr (by omega), heap_setCell_same wr S 1 _ _ _ h.blk, h1, h2, ?_⟩
  rcases h3 with ⟨_, h3, _⟩ | ⟨g, rfl, h3, h5, h4⟩
  · exact .inl h3
  · exact .inr ⟨g, rfl, .inr (by have := h.own g h3; omega), h5, hr2.lie h4⟩
theorem sres_bad {w W : World} {R n E : Nat} {ok : Nat → Prop} {t : JV} {r : RS} (h : r = .bad E) (hu : Upd w W (some R) (some R)) : SRes w R ok t n r (refV E) W := by
  subst h; exact ⟨rfl, Lib.hid hu⟩
theorem sres_ok {w W : World} {R n m p : Nat} {ok : Nat → Prop} {t : JV} {r : RS} (h : r = .ok m) (hs : SchAt W (OkN ok w) t (.pointer (some ⟨p, 0, none⟩))) (hc : W.cell? ⟨p, 1, none⟩ = some (.int .i64 ((m : Int) - n))) (hr : RdrAt W R m) (hu : Upd w W (some R) (some R)) : SRes w R ok t n r (.returned (.pointer (some ⟨p, 0, none⟩))) W := by
  subst h; exact ⟨p, rfl, Lib.hid hs, Lib.hid hc, Lib.hid hr, Lib.hid hu⟩
set_option maxRecDepth 20000 in
set_option maxHeartbeats 8000000 in
theorem schema_step (m : Nat) (ih : SchemaSaid m) : SchemaSaid (m + 1) := by
  intro t hm hok hbk d n hd hn cs w ok R hC hr hc
  obtain ⟨k, i, s, ns, is⟩ := t
  have hr0 := hr
  rw [rep_mk] at hr
  obtain ⟨hkk, hii, _, an, cn, ai, ci, rfl, hcn, hci, hst, hit⟩ := hr
  rw [okU] at hok
  have hlen := len_bulk hbk
  have hbb : ∀ x ∈ is, x.bulk ≤ 1099511627776 := fun x hx => by rw [JV.bulk] at hbk; have := JV.bulk_le hx; omega
  have hnb : ∀ x ∈ ns, x.size ≤ maxLen := fun x hx => by rw [JV.bulk] at hbk; have := strs_bulk hx; unfold maxLen; omega
  have hsz : ∀ x ∈ is, x.size ≤ m := fun x hx => by have h1 := JV.size_le hx; rw [JV.size] at hm; omega
  have hb0 : Below w.heap.size w (w.alloc (.cells #[.int .i64 k, .int .i64 i, .string s, .slice an ns.length cn, .slice ai is.length ci] 25)) := (Below.refl _ _).alloc (Nat.le_refl _) _
  obtain ⟨a0, a1, a2, a3, a4⟩ := cells5' w (.int .i64 k) (.int .i64 i) (.string s) (.slice an ns.length cn) (.slice ai is.length ci) 25
  have HRP := Lib.hid hr0
  have HST := Lib.hid hst
  have HIT := Lib.hid hit
  have HB0 := Lib.hid hb0
  have HIH := Lib.hid ih
  have HOK := Lib.hid hok
  have HBB := Lib.hid hbb
  have HBK := Lib.hid hbk
  have HNB := Lib.hid hnb
  have HSZ := Lib.hid hsz
  have HNC := Lib.hid hC
  have HRD := Lib.hid hc
  have hRl := hc.cells.2.2
  have HCB := Lib.hid (And.intro hcn hci)
  clear hr0 hc hst hit hb0 ih hok hbb hsz hC hkk hii hm hbk hnb hcn hci
  by_cases h6 : k = 6
  case neg =>
    have HT := Lib.hid (show readS (.mk k i s ns is) d n = .bad 210 by rw [readS, if_neg h6])
    have e6 : (k == 6) = false := by simp [h6]
    clear h6 a1 a2 a3 a4
    go_enter Tryz.func25, Tryz.ntmps25
    go_wp2_with fail
    refine (need_f _).mono ?_; rintro e w' ⟨rfl, rfl⟩
    unfold refV
    go_wp2
    exact ⟨rfl, sres_bad HT.out (Upd.of_below HB0.out _)⟩
  subst h6
  by_cases h8 : 8 < d
  · have HT := Lib.hid (show readS (.mk 6 i s ns is) d n = .bad 211 by rw [readS, if_pos rfl, if_pos h8])
    have hd8 : (8 : Int) < (d : Int) := by omega
    clear h8 a1 a2 a3 a4
    go_enter Tryz.func25, Tryz.ntmps25
    go_wp2_with (go_at_call 30; refine (need_t _).mono ?_; rintro e w' ⟨rfl, rfl⟩)
    refine (refuse_c 211 _).mono ?_; rintro e w' ⟨rfl, rfl⟩
    unfold refV
    go_wp2
    exact ⟨rfl, sres_bad HT.out (Upd.of_below HB0.out _)⟩
  have HT := Lib.hid (show readS (.mk 6 i s ns is) d n = readRules is ns d n by rw [readS, if_pos rfl, if_neg h8])
  have hd8 : ¬ (8 : Int) < (d : Int) := by omega
  have hd9 : d ≤ 8 := by omega
  have HLN := Lib.hid (HOK.out.1 rfl)
  have hbS : Below w.heap.size w ((w.alloc (.cells #[.int .i64 6, .int .i64 i, .string s, .slice an ns.length cn, .slice ai is.length ci] 25)).alloc (.cells #[.slice none 0 0, .int .i64 0] 66)) := (by repeat (first | with_reducible exact Below.refl _ _ | with_reducible refine below_drewN ?_ _ | with_reducible refine Below.drew ?_ | with_reducible refine below_set5 ?_ (by first | (simp; done) | (simp; omega)) | with_reducible refine Below.alloc ?_ (by first | (simp; done) | (simp; omega)) _ | with_reducible refine Below.setCell ?_ (by first | (simp; done) | (simp; omega)) _))
  obtain ⟨r0, rf0, _⟩ := (HRD.out.below hbS).cells
  have HBS := Lib.hid hbS
  clear h8 hbS
  go_enter Tryz.func25, Tryz.ntmps25
  go_wp2_with (go_at_call 30; refine (need_t _).mono ?_; rintro e w' ⟨rfl, rfl⟩)
  refine (makers_c _).mono ?_; rintro e Wm ⟨Bm, E, rfl, hmk, hE, hbm, hBm⟩
  have hs0 := hbm.size
  simp only [World.size_alloc] at hs0 hBm
  have HMK := Lib.hid hmk.1
  have HMV := Lib.hid hmk.2.2
  have hBl := hmk.1.lt
  have HE := Lib.hid hE
  have HBM := Lib.hid (HBS.out.trans (hbm.mono HBS.out.size))
  have HSC := Lib.hid (show ScAt w ok (w.heap.size + 1) Wm.heap.size [] [] (knownJ ns is) (.slice none 0 0) [] Wm from ⟨(hbm.block _ (by simp)).trans (by have h := heap_alloc_new (w.alloc (.cells #[.int .i64 6, .int .i64 i, .string s, .slice an ns.length cn, .slice ai is.length ci] 25)) (.cells #[.slice none 0 0, .int .i64 0] 66); rw [World.size_alloc] at h; exact h), by omega, by omega, row_nil _ _ _, fun g h => (by cases h), rfl⟩)
  have hX : Wm.heap[w.heap.size]? = some (.cells #[.int .i64 6, .int .i64 i, .string s, .slice an ns.length cn, .slice ai is.length ci] 25 (0, 0)) := (hbm.block _ (by simp; omega)).trans ((heap_alloc_old _ _ (by simp)).trans (heap_alloc_new w _))
  have HX := Lib.hid hX
  obtain ⟨⟨a0, a1, a2, a3, a4⟩, _⟩ := cellsOf5 hX
  have HRM := Lib.hid (HRD.out.below HBM.out)
  clear r0 rf0 hmk hE hbm hX
  obtain ⟨r0, rf0, _⟩ := HRM.out.cells
  go_wp2
  clear a0 a1 a2 a3 a4 r0 rf0
  go_loopw [31] (fun q wr => ∃ (j p : Nat) (v : Value) (xs : List Value), j ≤ ns.length ∧ q = .int .i64 j ∧ n ≤ p ∧ p ≤ 128 ∧ Wm.heap.size ≤ wr.heap.size ∧ Hid (RdrAt wr R p) ∧ Hid (ScAt w ok (w.heap.size + 1) Wm.heap.size (is.take j) (ns.take j) (knownJ ns is) v xs wr) ∧ Hid (Upd w wr (some R) (some R)) ∧ Hid (MkAt wr Bm E) ∧ Hid (∀ b, Bm + 1 ≤ b → b < Wm.heap.size → wr.heap[b]? = Wm.heap[b]?) ∧ Hid (wr.heap[w.heap.size]? = some (.cells #[.int .i64 6, .int .i64 i, .string s, .slice an ns.length cn, .slice ai is.length ci] 25 (0, 0))) ∧ Hid (readRules is ns d n = readRules (is.drop j) (ns.drop j) d p)) (fun q _ => ns.length - (intOf q).toNat)
  case atStart => exact ⟨0, n, _, _, Nat.zero_le _, rfl, Nat.le_refl _, hn, Nat.le_refl _, HRM, HSC, Lib.hid (Upd.of_below HBM.out _), HMK, Lib.hid (fun _ _ _ => rfl), HX, Lib.hid rfl⟩
  case round =>
    clear HSC HX HRM HMK HRD
    obtain ⟨j, p, v, xs, hj, rfl, hnp, hp, hWm, HR, HS, HU, HK, HM, HX, HQ⟩ := hrel
    obtain ⟨⟨a0, a1, a2, a3, a4⟩, _⟩ := cellsOf5 HX.out
    obtain ⟨r0, rf0, hRr⟩ := HR.out.cells
    have hsz := HU.out.grown.size
    have hXl := (Array.getElem?_eq_some_iff.1 HX.out).1
    obtain ⟨⟨s0, s1⟩, ⟨f0, f1⟩, hSl⟩ := HS.out.cells
    have hKl := HK.out.lt
    by_cases hlt : j < ns.length
    · have hlti : j < is.length := by have := HLN.out; omega
      obtain ⟨b, off, rfl, hnc⟩ := (HST.out.upd HNC.out HU.out).at j hlt
      have hncl := cell_lt hnc
      simp only at hncl
      have HQ2 := Lib.hid (show readRules is ns d n = if p = 128 then .bad 211 else match readRule is[j] ns[j] d (p + 1) with | .bad e => .bad e | .ok m => readRules (is.drop (j + 1)) (ns.drop (j + 1)) d m by
        rw [HQ.out, List.drop_eq_getElem_cons hlti, List.drop_eq_getElem_cons hlt, readRules]
        rfl)
      clear HQ
      by_cases hp8 : p = 128
      · have HT2 := Lib.hid (show readS (.mk 6 i s ns is) d n = .bad 211 by rw [HT.out, HQ2.out, if_pos hp8])
        have e8 : ((p : Int) == 128) = true := by simp [hp8]
        clear HQ2 hp8
        go_wp2_with fail
        refine (refuse_c 211 _).mono ?_; rintro e w' ⟨rfl, rfl⟩
        unfold refV
        go_wp2
        exact ⟨rfl, sres_bad HT2.out HU.out⟩
      · have HQ3 := Lib.hid (HQ2.out.trans (if_neg hp8))
        have e8 : ((p : Int) == 128) = false := by rw [beq_eq_false_iff_ne]; omega
        have hp1 : p + 1 ≤ 128 := by omega
        have HK1 := Lib.hid (HK.out.kept (Upd.of_setCell wr ⟨R, 0, none⟩ (.int .i64 ((p : Int) + 1))) (fun e => by injection e with e; simp only at e; omega))
        have HR1 := Lib.hid (show RdrAt (wr.setCell ⟨R, 0, none⟩ (.int .i64 ((p : Int) + 1))) R (p + 1) from HR.out.setN (p + 1))
        have HU1 := Lib.hid (HU.out.trans (Upd.of_setCell wr ⟨R, 0, none⟩ (.int .i64 ((p : Int) + 1))))
        obtain ⟨mv, hrun, hmv⟩ := HK1.out.look ns[j] (HNB.out _ (List.getElem_mem hlt))
        cases hl : lookE E ns[j] with
        | none =>
          rw [hl] at hrun
          simp only [Option.isSome_none] at hrun
          have HT2 := Lib.hid (show readS (.mk 6 i s ns is) d n = .bad 210 by
            rw [HT.out, HQ3.out, rule_unknown is[j] ns[j] d (p + 1) (fun hmem => by
              have h1 := (lookE_mem E ns[j]).2 (by rw [HE.out]; exact List.mem_reverse.2 hmem)
              rw [hl] at h1
              cases h1)])
          clear HQ2 HQ3 hl hmv hp8
          generalize ns[j] = nm at *
          go_wp2_with fail
          refine (need_f _).mono ?_; rintro e w' ⟨rfl, rfl⟩
          unfold refV
          go_wp2
          exact ⟨rfl, sres_bad HT2.out HU1.out⟩
        | some mv' =>
          obtain rfl := hmv mv' hl
          rw [hl] at hrun
          simp only [Option.isSome_some] at hrun
          have hdr := Lib.hid (Below.drew (Below.refl (wr.setCell ⟨R, 0, none⟩ (.int .i64 ((p : Int) + 1))).heap.size (wr.setCell ⟨R, 0, none⟩ (.int .i64 ((p : Int) + 1)))))
          have HSW := Lib.hid (show ∀ b, b < wr.heap.size → b ≠ R → (wr.setCell ⟨R, 0, none⟩ (.int .i64 ((p : Int) + 1))).heap[b]? = wr.heap[b]? from fun b hb hne => (Upd.of_setCell wr ⟨R, 0, none⟩ (.int .i64 ((p : Int) + 1))).block hb (fun e => by injection e with e; exact hne e.symm))
          have HS1 := Lib.hid (HS.out.move (Upd.of_setCell wr ⟨R, 0, none⟩ (.int .i64 ((p : Int) + 1))) hRl HNC.out)
          have HX1 := Lib.hid ((HSW.out w.heap.size hXl (by omega)).trans HX.out)
          have HM1 := Lib.hid (show ∀ b, Bm + 1 ≤ b → b < Wm.heap.size → (wr.setCell ⟨R, 0, none⟩ (.int .i64 ((p : Int) + 1))).heap[b]? = Wm.heap[b]? from fun b h1 h2 => (HSW.out b (by have := hlt; have h9 := HM.out b h1 h2; rw [Array.getElem?_eq_getElem h2] at h9; exact (Array.getElem?_eq_some_iff.1 h9).1) (by omega)).trans (HM.out b h1 h2))
          have hW1s : (wr.setCell ⟨R, 0, none⟩ (.int .i64 ((p : Int) + 1))).heap.size = wr.heap.size := World.size_setCell _ _ _
          rw [← hW1s] at hWm hRr hXl hSl hKl hsz
          have HJT := okUs_at HOK.out.2 j hlti
          have hKN : (hasJ (.mk 6 i s ns is) ⟨#[112, 114, 111, 112, 101, 114, 116, 105, 101, 115]⟩).getD (jnil 0) = knownJ ns is := rfl
          obtain ⟨b2, off2, an2, cn2, ai2, ci2, rfl, hrj, hlj⟩ := ((HIT.out.kept (w' := wr.setCell ⟨R, 0, none⟩ (.int .i64 ((p : Int) + 1))) (ok' := OkE ok w.heap.size (fun b => v.ownBlock = some b ∨ b = w.heap.size + 1)) (fun b hlt ho => ⟨.inl ⟨ho, hlt⟩, HU1.out.block hlt (fun e => HNC.out (by injection e with e; rw [e]; exact ho))⟩)).below hdr.out).at j hlti
          obtain ⟨fm, caps, rfl, hent, hcall⟩ := maker_c m HIH.out d (p + 1) hd9 hp1 (.mk 6 i s ns is) is[j] (HSZ.out _ (List.getElem_mem hlti)) HJT (HBB.out _ (List.getElem_mem hlti)) HBK.out _ _ Wm (wr.setCell ⟨R, 0, none⟩ (.int .i64 ((p : Int) + 1))).drew (OkE ok w.heap.size (fun b => v.ownBlock = some b ∨ b = w.heap.size + 1)) R (Bm + 1) ns[j] _ (HMV.out _ _ hl)
            HM1.out (fun b h1 h2 => .inr ⟨by omega, fun hf => by rcases hf with hf | hf; have := HS.out.own b hf; omega; omega⟩) (fun h => by rcases h with h | h; exact HNC.out h.1; omega)
            (Rep.kept (fun b hlt ho => ⟨.inl ⟨ho, hlt⟩, (HU1.out.trans_below (hdr.out.mono (by omega))).block hlt (fun e => HNC.out (by injection e with e; rw [e]; exact ho))⟩) _ _ HRP.out) hrj (HR1.out.below hdr.out)
          rw [hKN] at hcall
          have HKd := Lib.hid (HK1.out.below hdr.out)
          have HSd := Lib.hid (HS1.out.below hdr.out)
          have hsd := hdr.out.size
          have HOO := Lib.hid (show ∀ b, (v.ownBlock = some b ∨ b = w.heap.size + 1) → b < (wr.setCell ⟨R, 0, none⟩ (.int .i64 ((p : Int) + 1))).drew.heap.size from fun b hb => by
            rcases hb with hb | hb
            · exact HSd.out.row.lt hb
            · rw [hb]; exact HSd.out.cells.2.2)
          have hW3 := Lib.hid (show w.heap.size ≤ (wr.setCell ⟨R, 0, none⟩ (.int .i64 ((p : Int) + 1))).drew.heap.size by omega)
          have hW4 := Lib.hid (show Wm.heap.size ≤ (wr.setCell ⟨R, 0, none⟩ (.int .i64 ((p : Int) + 1))).drew.heap.size by omega)
          have HTN := Lib.hid (show ns.take (j + 1) = ns.take j ++ [ns[j]] from List.take_succ_eq_append_getElem hlt)
          have HTK := Lib.hid (show is.take (j + 1) = is.take j ++ [is[j]] from List.take_succ_eq_append_getElem hlti)
          have HTL := Lib.hid (show (ns.take j).length = j from List.length_take_of_le hj)
          have HTI := Lib.hid (show (is.take j).length = j from List.length_take_of_le (Nat.le_of_lt hlti))
          have HSL := Lib.hid (readRule_le is[j] ns[j] d (p + 1))
          obtain ⟨l0, l1, l2, l3, l4⟩ := lie5 hlj
          have hb2l := cell_lt l0
          simp only at hb2l
          obtain ⟨va, vc, rfl, _⟩ := HS1.out.row.form
          clear hl hmv hrj hlj hp8 HQ2 HJT hKN HR HS HX HM HK HS1 HK1
          generalize is.take j = LI at *
          generalize ns.take j = LN at *
          have HR1c := HR1.out.cells
          obtain ⟨⟨s0', s1'⟩, ⟨f0', f1'⟩, _⟩ := HSd.out.cells
          cases hrr : readRule is[j] ns[j] d (p + 1) with
          | bad E2 =>
            rw [hrr] at hcall HQ3
            have HT2 := Lib.hid (show readS (.mk 6 i s ns is) d n = .bad E2 from HT.out.trans HQ3.out)
            have HC := Lib.hid hcall
            clear hrr HSL HTK HTN HQ3 hcall
            generalize is[j] = y at *
            generalize ns[j] = nm at *
            go_wp2_with (go_at_call 30; refine (need_t _).mono ?_; rintro e w' ⟨rfl, rfl⟩)
            go_region_law (first
              | (go_simp; refine HC.out.mono ?_; rintro e wv ⟨rfl, HU4⟩; unfold refV; refine wpAny_out (P := Tryz.prog) ⟨#[], []⟩ wv ?_))
            all_goals exact ⟨rfl, sres_bad HT2.out (HU1.out.trans ((Upd.of_below hdr.out _).trans HU4.out))⟩
          | ok m2 =>
            rw [hrr] at hcall HQ3
            have hm2 := HSL.out m2 hp1 hrr
            have HC := Lib.hid hcall
            have HLL := Lib.hid (show LI.length + 1 ≤ 1099511627776 by have := HTI.out; omega)
            have HNL := Lib.hid (show LI.length = LN.length by have := HTI.out; have := HTL.out; omega)
            have hmB : Bm ≠ R := by omega
            have hSB : w.heap.size + 1 ≠ Bm := by omega
            have hXS : w.heap.size ≠ w.heap.size + 1 := by omega
            clear hrr HSL hcall
            generalize is[j] = y at *
            generalize ns[j] = nm at *
            go_wp2_with (go_at_call 30; refine (need_t _).mono ?_; rintro e w' ⟨rfl, rfl⟩)
            go_region_law (first
              | (refine step_app namTy (by rfl) _ _ (by rfl) (.slice va LI.length vc) LI.length xs (by rfl) (HSv.out.row.below ((Below.refl _ _).alloc (Nat.le_refl _) _)) (some ⟨wv.heap.size, 0, none⟩) 1 1 [.string nm, .iface T u] (by rfl) (by rfl) (by simp) (fun a ha => by cases ha; exact World.news_of_block (heap_alloc_new wv _)) (by simp [Value.oneCell']) (by have := HLL.out; unfold maxLen; omega) (by have := HLL.out; omega) ?_;
                 intro v' w4 hrow hu3; have e43 := hu3.cell e42 (fun e => by have := HSv.out.own _ e; simp only at this; omega); obtain ⟨f43⟩ : w4.frozen? ⟨w.heap.size + 1, 0, none⟩ = false ∧ True := ⟨by rw [hu3.frozen (cell_lt e42) (fun e => by have := HSv.out.own _ e; simp only at this; omega)]; exact f42, trivial⟩;
                 have HI3 := Lib.hid (HSv.out.item HNL.out hW3.out hW4.out HOO.out hW5.out HRv.out ((Below.refl _ _).alloc (Nat.le_refl _) _) hrow hu3); have HM3 := Lib.hid ((HMv.out.below ((Below.refl wv.heap.size wv).alloc (Nat.le_refl _) (.cells #[.string nm, .iface T u] 70))).kept hu3 (fun e => by have := HSv.out.own _ e; omega)); obtain ⟨g9, c9, hv9, _⟩ := hrow.form; subst hv9; clear hrow hu3)
              | (go_simp; refine HC.out.mono ?_; rintro e wv ⟨rv, rfl, HRv, HR4, HU4⟩; obtain ⟨T, u, rfl⟩ := rule_iface HRv.out; have HSv := Lib.hid (HSd.out.move HU4.out hRl HNC.out); have HMv := Lib.hid (HKd.out.kept HU4.out (fun e => by injection e with e; exact hmB e.symm)); have hW5 := Lib.hid HU4.out.grown.size; have e41 := HSv.out.cells.1.1; have e42 := cell_below ((Below.refl wv.heap.size wv).alloc (Nat.le_refl _) (.cells #[.string nm, .iface T u] 70)) e41; have f42 := (HSv.out.below ((Below.refl wv.heap.size wv).alloc (Nat.le_refl _) (.cells #[.string nm, .iface T u] 70))).cells.2.1.1))
            all_goals clear e41 e42 e43 f43 f42 a0 a1 a2 a3 a4 r0 rf0 s0 s1 f0 f1 l0 l1 l2 l3 l4 s0' s1' f0' f1'
            all_goals go_wp2
            all_goals go_roundw
            all_goals first
              | (simp [intOf]; omega)
              | (have hW3' := hW3.out
                 have hW4' := hW4.out
                 have hW5' := hW5.out
                 have hsl := HI3.out.2.1.size
                 exact ⟨j + 1, m2, _, _, by omega, by go_num, by omega, hm2.2, by omega, Lib.hid ((HI3.out.2.2 R (by omega) (by omega)).trans HR4.out), Lib.hid (by rw [HTN.out, HTK.out]; exact HI3.out.1), Lib.hid ((HU1.out.trans ((Upd.of_below hdr.out _).trans HU4.out)).trans_below HI3.out.2.1), Lib.hid (HM3.out.kept (Upd.of_setCell _ _ _) (fun e => by injection e with e; exact hSB e)),
                   Lib.hid (fun b h1 h2 => (HI3.out.2.2 b h2 (by omega)).trans ((HU4.out.block (by omega) (fun e => by injection e with e; omega)).trans ((hdr.out.block b (by omega)).trans (HM1.out b h1 h2)))),
                   Lib.hid ((HI3.out.2.2 _ (by omega) hXS).trans ((HU4.out.block (by omega) (fun e => by injection e with e; omega)).trans ((hdr.out.block _ (by omega)).trans HX1.out))), HQ3⟩)
    · obtain rfl : j = ns.length := by omega
      have hSf := HS.out
      rw [List.take_length, show ns.length = is.length from HLN.out, List.take_length] at hSf
      have HSf := Lib.hid hSf
      have HT2 := Lib.hid (show readS (.mk 6 i s ns is) d n = .ok p by rw [HT.out, HQ.out, show ns.length = is.length from HLN.out, List.drop_length, readRules])
      obtain ⟨va, vc, rfl, _⟩ := hSf.row.form
      have hps : wrap64 ((p : Int) - n) = (p : Int) - n := by unfold wrap64; omega
      clear hSf
      go_wp2
      go_ret
      have hdn := HSf.out.done (w := w) (k := 6) (i := i) (s := s) (Nat.le_refl _) (p - n)
      rw [show ((p - n : Nat) : Int) = (p : Int) - n by omega] at hdn
      have hs : Upd wr (wr.setCell ⟨w.heap.size + 1, 1, none⟩ (.int .i64 ((p : Int) - n))) (some (w.heap.size + 1)) (some (w.heap.size + 1)) := Upd.of_setCell _ _ _
      exact sres_ok HT2.out hdn (setS s1) ((hs.block hRr (fun e => by injection e with e; omega)).trans HR.out) (HU.out.trans_below (hs.below (by omega) (fun g e => by injection e with e; omega)))
end Go.Proofs.YtnmojmmgkipjcaaGreatDoor
