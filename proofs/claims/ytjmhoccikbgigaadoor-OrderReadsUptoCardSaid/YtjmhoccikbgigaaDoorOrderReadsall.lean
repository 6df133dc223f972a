/- OrderReads, for every input: the walk of the law, its row and card. Conditions: the tables of package utf8 lie as their texts lay them; what comes in is of bulk at most 1048576. -/
import Derived.Test.YtjmhoccikbgigaaDoorTreeread
import Derived.Test.YtjmhoccikbgigaaDoorByteslaw
import Derived.Test.YtjmhoccikbgigaaDoorRdtext
import Derived.Test.YtjmhoccikbgigaaDoorRefall
import Derived.Test.YtjmhoccikbgigaaDoorRowkit
import Derived.Test.YtjmhoccikbgigaaDoorTabs
namespace Go.Proofs.YtjmhoccikbgigaaDoor
open Go.ChangeShapes Go.WideShapes Go.RowKit Go.Deep
/-- appending a slice that may be nil -/
theorem wpList_app_any {P : Program} {S E : TypeId} {z : Value} {size bytes : Nat} {w : World} {ops : Array Oper} {rest : List Oper} {o : Oper} {a : Act} {Q : Exit → Act → World → Prop} (ty : SlTy P S E z size bytes) (hgd : o.guard = none) (s x : Operand)
    (ho : o.op = .call { callee := .builtin .append, args := #[s, x], argTypes := #[S, S] })
    (v : Value) (n : Nat) (xs : List Value) (hs : a.eval s = v) (hown : Row w E size v n xs)
    (A : Option Addr) (m c : Nat) (news : List Value) (hx : a.eval x = .slice A m c) (hl : news.length = m * size)
    (hA : A = none → m = 0) (hnews : ∀ a, A = some a → ∀ j u, news[j]? = some u → w.cell? (a.add j) = some u) (h1 : ∀ u ∈ news, u.oneCell' = true)
    (h63 : n + m ≤ maxLen) (hbytes : (n + m) * bytes ≤ 140737488355328)
    (h : ∀ v' w', Row w' E size v' (n + m) (xs ++ news) → Upd w w' v.ownBlock v'.ownBlock → wpList P ops Q rest (a.put o.dst v') w') : wpList P ops Q (o :: rest) a w :=
  wpList_plain hgd fun _ hK => by
    obtain ⟨v', w', hr, h2, h3⟩ := run_app_any (w := w) ty o.type v n xs hown A m c news hl hA hnews h1 h63 hbytes
    unfold Oper.wp execOp
    simp only [ho, resolve, invoke, builtin, Sem.run_bind, Sem.run_pure, Result.andThen_ok, List.map_toArray, List.map_cons, List.map_nil, hs, hx, hr]
    exact hK _ _ (h v' w' h2 h3)
/-- a slice of bytes that came in -/
def BIn (w : World) (A : Option Addr) (l : List UInt8) : Prop := l = [] ∨ ∃ G o, A = some ⟨G, o, none⟩ ∧ Lie w G o (bytesV l)
theorem bin_below {w w' : World} {A : Option Addr} {l : List UInt8} (h : BIn w A l) (hb : Below w.heap.size w w') : BIn w' A l := by
  rcases h with h | ⟨G, o, h1, h2⟩
  · exact .inl h
  · exact .inr ⟨G, o, h1, lie_below h2 hb⟩
theorem bin_string {w : World} {A : Option Addr} {l : List UInt8} (h : BIn w A l) (c : Nat) : (convert 34 9 (.slice A l.length c)).run Tryd.prog w = .ok (.string ⟨l.toArray⟩) w := by
  have back : ∀ (a : Addr), (∀ j (hj : j < l.length), w.cell? (a.add j) = some (.int .u8 (l[j].toNat : Int))) → (convert 34 9 (.slice (some a) l.length c)).run Tryd.prog w = .ok (.string ⟨l.toArray⟩) w := fun a ha =>
    run_convert_bytes_back (P := Tryd.prog) w 34 9 5 a c l byTy.slice byTy.byte Tryd.underlying9 ha
  cases A with
  | none =>
    rcases h with rfl | ⟨G, o, h1, _⟩
    · exact run_convert_bytes_nil w 34 5 byTy.slice byTy.byte 0 c 9 Tryd.underlying9
    · cases h1
  | some a =>
    rcases h with rfl | ⟨G, o, h1, h2⟩
    · exact back a (fun j hj => by simp at hj)
    · obtain rfl := Option.some.inj h1
      exact back _ (fun j hj => by rw [add_none]; exact lie_byte h2 j hj)
theorem bulk_lits {H : Type} (k : IntKind) (zs : List Int) : Rows.uptoBulkAll (lits (H := H) k zs) = zs.length := by
  induction zs with
  | nil => rfl
  | cons z r ih =>
    show Rows.uptoBulkAll (DataW.lit (.int k z) :: lits k r) = _
    rw [Rows.uptoBulkAll, ih, Rows.uptoBulk, List.length_cons]
    · omega
    · intro b h; cases h
theorem wf_u8 {n : Int} (h : (Lit.int .u8 n).wf = true) : 0 ≤ n ∧ n ≤ 255 := by
  simp [Lit.wf, IntKind.min, IntKind.max, IntKind.bits, IntKind.signed] at h; omega
theorem bytes_cap_of {P : Program} {T E : TypeId} {H : Type} {enc : TypeId × Value → H} {W : World} {base : Nat} {spare : Nat → Bool} {held : Bool} {r : Reach} {b0 : Nat} {v : Value} {d : DataW H} {p : List MemPlace}
    (ht : P.underlying T = some (.slice E)) (he : P.underlying E = some (.int .u8)) (hc : P.cellsOf E = 1) (hv : Value.okWide P W r b0 T v) (h : DataW.Trod enc P W base spare held T v d p) :
    ∃ (A : Option Addr) (l : List UInt8) (c : Nat), v = .slice A l.length c ∧ (A = none → l.length = 0) ∧ BIn W A l ∧ (l.length ≤ c ∧ c ≤ maxLen) ∧ l.length ≤ Rows.uptoBulk d := by
  obtain ⟨a0, len0, cap0, rfl⟩ := okWide_slice ht hv
  obtain ⟨fuel, hf⟩ := h
  have hf' : DataW.trod enc P W base spare held fuel T [.slice a0 len0 cap0] = some (d, p) := hf
  rcases open_ints ht he hc hf' with ⟨h1, h2⟩ | ⟨a, len, cap, zs, h1, _, hlc, hlm, hz, h2, hcell, hwf⟩
  · injection h1 with h1 _
    injection h1 with e1 e2 e3
    subst e1; subst e2; subst e3
    exact ⟨none, [], 0, rfl, fun _ => rfl, .inl rfl, ⟨Nat.le_refl _, Nat.zero_le _⟩, Nat.zero_le _⟩
  · injection h1 with h1 _
    injection h1 with e1 e2 e3
    subst e1; subst e2; subst e3
    injection h2 with h2 _
    have hlz : len0 ≤ zs.length := by rw [hz]; split <;> omega
    have hl : ((zs.take len0).map (fun z => UInt8.ofNat z.toNat)).length = len0 := by rw [List.length_map, List.length_take]; omega
    refine ⟨some a, (zs.take len0).map (fun z => UInt8.ofNat z.toNat), cap0, by rw [hl], (fun h => (by cases h)), ?_, ⟨by rw [hl]; exact hlc, hlm⟩, ?_⟩
    · by_cases h0 : len0 = 0
      · left; subst h0; simp
      · right
        have hsp : a.spot = none := spot_none (a := a) (v := .int .u8 (zs.getD 0 0)) (by have := hcell 0 (by omega); simpa [Addr.add] using this)
        obtain ⟨B, o, sp⟩ := a
        obtain rfl : sp = none := hsp
        refine ⟨B, o, rfl, fun j u hj => ?_⟩
        unfold bytesV at hj
        rw [List.map_map, List.getElem?_map] at hj
        have hjl : j < len0 := by
          rcases Nat.lt_or_ge j len0 with h | h
          · exact h
          · rw [List.getElem?_eq_none (by rw [List.length_take]; omega)] at hj; cases hj
        have hjz : j < zs.length := by omega
        rw [List.getElem?_take, if_pos hjl, List.getElem?_eq_getElem hjz] at hj
        injection hj with hj
        have h4 := hcell j hjz
        rw [add_none] at h4
        have h5 := wf_u8 (hwf zs[j] (List.getElem_mem hjz))
        rw [h4, ← hj]
        congr 2
        show zs.getD j 0 = (((UInt8.ofNat zs[j].toNat).toNat : Nat) : Int)
        rw [UInt8.toNat_ofNat', List.getD, List.getElem?_eq_getElem hjz, Option.getD_some]
        omega
    · rw [hl, h2, Rows.uptoBulk, bulk_lits, List.length_take]
      omega
set_option maxRecDepth 100000 in
theorem bytes_cap {H : Type} {enc : TypeId × Value → H} {W : World} {base : Nat} {spare : Nat → Bool} {held : Bool} {r : Reach} {b0 : Nat} {v : Value} {d : DataW H} {p : List MemPlace} (hv : Value.okWide Tryd.prog W r b0 34 v) (h : DataW.Trod enc Tryd.prog W base spare held 34 v d p) :
    ∃ (A : Option Addr) (l : List UInt8) (c : Nat), v = .slice A l.length c ∧ (A = none → l.length = 0) ∧ BIn W A l ∧ (l.length ≤ c ∧ c ≤ maxLen) ∧ l.length ≤ Rows.uptoBulk d :=
  bytes_cap_of byTy.slice byTy.byte (by kernel_rfl) hv h
end Go.Proofs.YtjmhoccikbgigaaDoor
namespace Go.Proofs.YtjmhoccikbgigaaDoor
open Go.RowKit
theorem byts_pre {w : World} {A : Option Addr} {n cap : Nat} {l r : List UInt8} (h : Byts w (.slice A n cap) (l ++ r)) : l = [] ∨ ∃ G o, A = some ⟨G, o, none⟩ ∧ Lie w G o (bytesV l) := by
  rcases byts_lie2 h with h | ⟨G, o, h1, h2⟩
  · exact .inl (List.append_eq_nil_iff.1 h).1
  · refine .inr ⟨G, o, h1, fun j u hj => h2 j u ?_⟩
    unfold bytesV at hj ⊢
    rw [List.map_append, List.getElem?_append_left]
    · exact hj
    · rcases Nat.lt_or_ge j (l.map fun c => Value.int .u8 (c.toNat : Int)).length with h | h
      · exact h
      · rw [List.getElem?_eq_none h] at hj; cases hj
theorem blk_below {w w' : World} {B : Nat} {o : Obj} (h : w.heap[B]? = some o) (hb : Below w.heap.size w w') : w'.heap[B]? = some o := by
  have hlt : B < w.heap.size := (Array.getElem?_eq_some_iff.1 h).1
  rw [hb.block B hlt]; exact h
/-- what FromBytes answers, as a sentence -/
def Answers (bs : List UInt8) (t : JV) (e pl : Nat) : Prop := match pAll bs with | .ok v _ => t = v ∧ e = 0 ∧ pl = 0 | .bad e' p' => t = nullV 0 ∧ e = e' ∧ pl = p' ∧ e' ≠ 0
theorem answers_one (bs : List UInt8) : ∃ (T : JV) (E P : Nat), ∀ t e pl, Answers bs t e pl → t = T ∧ e = E ∧ pl = P := by
  unfold Answers
  cases pAll bs with
  | ok v q => exact ⟨v, 0, 0, fun t e pl h => h⟩
  | bad e' p' => exact ⟨nullV 0, e', p', fun t e pl h => ⟨h.1, h.2.1, h.2.2.1⟩⟩
theorem blk_upd {w w' : World} {B G : Nat} {o : Obj} {r' : Option Nat} (h : w.heap[B]? = some o) (hu : Upd w w' (some G) r') (hne : G ≠ B) : w'.heap[B]? = some o :=
  (hu.block (Array.getElem?_eq_some_iff.1 h).1 (fun e => hne (Option.some.inj e))).trans h
theorem rep_upd {w w' : World} {n G : Nat} {t : JV} {cs : List Value} {r' : Option Nat} (h : Rep w (fun b => n ≤ b) t cs) (hG : G < n) (hu : Upd w w' (some G) r') : Rep w' (fun b => n ≤ b) t cs :=
  Rep.kept (fun b hlt hb => ⟨hb, hu.block hlt (fun e => by have := Option.some.inj e; omega)⟩) _ _ h
set_option maxRecDepth 20000 in
set_option maxHeartbeats 8000000 in
theorem orderReads_c (A : Option Addr) (l : List UInt8) (c : Nat) (hlc : l.length < 1099511627776) (hc : l.length ≤ c ∧ c ≤ maxLen) (hA : A = none → l.length = 0) (w : World) (hl : BIn w A l) (hT : Lib.Utf8Tabs 0 1 w) :
    Calls Tryd.prog 6 #[.slice A l.length c] w fun e w' => e = .returned (.bool true) ∧ Below w.heap.size w w' := by
  have HIN8 := Lib.hid (bin_below hl ((Below.refl w.heap.size w).alloc (Nat.le_refl _) (.cells #[] 5)))
  have HROW8 := Lib.hid (show Row (w.alloc (.cells #[] 5)) 5 1 (.slice (some ⟨w.heap.size, 0, none⟩) 0 0) 0 [] from World.ownsRow_made w #[] 0 (Nat.zero_le _) (Nat.zero_le _) (by simp))
  have HB8 := Lib.hid ((Below.refl w.heap.size w).alloc (Nat.le_refl _) (.cells #[] 5))
  have HLC := Lib.hid hlc
  have HCC := Lib.hid hc
  have HT := Lib.hid hT
  have HIN := Lib.hid hl
  obtain ⟨T, E, P, hpr⟩ := answers_one l
  have HPR := Lib.hid hpr
  have hcm : c ≤ 9223372036854775807 := hc.2
  clear hT hl hc hpr
  go_enter Tryd.func6, Tryd.ntmps6
  go_wp2_with (first
    | (at_builtin; refine wpList_app_any bytTy rfl _ _ rfl _ 0 [] rfl HROW8.out A l.length c (bytesV l) rfl (by simp [bytesV]) hA (fun a ha j u hj => by
        rcases HIN8.out with h | ⟨G, o, h1, h2⟩
        · rw [h] at hj; simp [bytesV] at hj
        · rw [ha] at h1; obtain rfl := Option.some.inj h1; rw [add_none]; exact h2 j u hj) (by intro u hu; obtain ⟨x, _, rfl⟩ := List.mem_map.1 hu; rfl) (by unfold maxLen; omega) (by omega) ?_
       intro v8 w8 hrow8 hu8
       have hv8 : Byts w8 v8 l := by unfold Byts; simpa [bytesV] using hrow8
       have hb8 : Below w.heap.size w w8 := HB8.out.trans (hu8.below HB8.out.size (fun g hg => by cases hg; exact Nat.le_refl _))
       have hal : Below w8.heap.size w8 (w8.alloc (.cells #[.int .u8 1, .int .u8 2, .int .u8 3] 5)) := (Below.refl _ _).alloc (Nat.le_refl _) _
       have HB9 := Lib.hid (below_trans hb8 hal)
       have HROW9 := Lib.hid (show Row (w8.alloc (.cells #[.int .u8 1, .int .u8 2, .int .u8 3] 5)) 5 1 v8 l.length (bytesV l) from by have h := byts_kept hv8 hal; unfold Byts at h; simpa [bytesV] using h)
       have HF8 := Lib.hid (show ∀ g, v8.ownBlock = some g → w.heap.size ≤ g from fun g hg => by have h := hu8.own' g hg; simp only [World.size_alloc] at h; omega)
       clear hrow8 hu8 hb8 hal hv8)
    | (at_builtin; go_loud (
       refine wpList_app_any bytTy rfl _ _ rfl _ l.length (bytesV l) rfl HROW9.out (some ⟨w8.heap.size, 0, none⟩) 3 3 [.int .u8 1, .int .u8 2, .int .u8 3] rfl rfl (fun h => by cases h) (fun a ha => by cases ha; exact World.news_of_block (heap_alloc_new w8 _)) (by simp [Value.oneCell']) (by unfold maxLen; omega) (by omega) ?_
       intro v9 w9 hrow9 hu9
       have HV9 := Lib.hid (show Byts w9 v9 (l ++ [1, 2, 3]) from by unfold Byts; simpa [bytesV] using hrow9)
       have hb9 : Below w.heap.size w w9 := HB9.out.trans (hu9.below HB9.out.size (fun g hg => HF8.out g hg))
       obtain ⟨A9, p9, hv9, q9, r9, s9⟩ := bytes_form HV9.out
       obtain ⟨G, rfl⟩ : ∃ G, A9 = some ⟨G, 0, none⟩ := Or.resolve_left s9 (by simp)
       have hlen : (l ++ ([1, 2, 3] : List UInt8)).length = l.length + 3 := by rw [List.length_append]; rfl
       rw [hlen] at hv9 q9
       subst hv9
       have hGw : w.heap.size ≤ G := by
         rcases hu9.own with e | ⟨g, e, hg⟩
         · exact HF8.out G (e.symm.trans rfl)
         · obtain rfl := Option.some.inj e; exact Nat.le_trans HB9.out.size hg
       have hG9 : G < w9.heap.size := Row.lt HV9.out rfl
       have HGW := Lib.hid hGw
       have hq9 : l.length ≤ p9 := by omega
       have hr9 : p9 ≤ 9223372036854775807 := r9
       have HQ9 := Lib.hid (And.intro hq9 r9)
       clear hrow9 hu9 hGw r9 s9 hlen)))
  have HT_0 := Lib.hid (utf8_below HT.out hb9)
  have HIN_0 := Lib.hid (bin_below HIN.out hb9)
  have HB_0 := Lib.hid hb9
  have HV9_0 := Lib.hid HV9.out
  clear hb9 HT HIN HV9 HB9 HF8 HROW9 HIN8 HROW8 HB8 hA hlc
  have hfr := fromBytes_c l HLC.out (some ⟨G, 0, none⟩) p9 HQ9.out w9 (byts_pre HV9_0.out) HT_0.out
  go_wp2_with fail
  refine hfr.mono ?_; rintro e wa ⟨t, nv, mv, iv, jv, ee, pp, rfl, hrx, hbx, hres⟩
  obtain ⟨rfl, rfl, rfl⟩ := HPR.out _ _ _ hres
  have hbo : Below wa.heap.size wa (wa.alloc (.cells #[.int .i64 t.kind, .int .i64 t.int, .string t.text, .slice nv t.names.length mv, .slice iv t.items.length jv] 28)) := (Below.refl _ _).alloc (Nat.le_refl _) _
  have hbb := below_trans hbx hbo
  have hszv : G < wa.heap.size := Nat.lt_of_lt_of_le hG9 hbx.size
  have HV9_1 := Lib.hid (byts_kept HV9_0.out hbb)
  have HT_1 := Lib.hid (utf8_below HT_0.out hbb)
  have HIN_1 := Lib.hid (bin_below HIN_0.out hbb)
  have HB_1 := Lib.hid (HB_0.out.trans (hbb.mono HB_0.out.size))
  clear HV9_0 HT_0 HIN_0 HB_0
  have HRv_1 := Lib.hid (hrx.below hbo)
  have HZv_1 := Lib.hid (heap_alloc_new wa (.cells #[.int .i64 t.kind, .int .i64 t.int, .string t.text, .slice nv t.names.length mv, .slice iv t.items.length jv] 28))
  clear hfr hrx hbx hbo hbb hres
  have hfr := dfromBytes_c l HLC.out A c HCC.out (wa.alloc (.cells #[.int .i64 t.kind, .int .i64 t.int, .string t.text, .slice nv t.names.length mv, .slice iv t.items.length jv] 28)) HIN_1.out
  go_wp2_with fail
  refine hfr.mono ?_; rintro e wb ⟨t, nd, md, id, jd, ee, pp, rfl, hrx, hbx, hres⟩
  obtain ⟨rfl, rfl, rfl⟩ := HPR.out _ _ _ hres
  have hbo : Below wb.heap.size wb (wb.alloc (.cells #[.int .i64 t.kind, .int .i64 t.int, .string t.text, .slice nd t.names.length md, .slice id t.items.length jd] 28)) := (Below.refl _ _).alloc (Nat.le_refl _) _
  have hbb := below_trans hbx hbo
  have hszd : G < wb.heap.size := Nat.lt_of_lt_of_le (by simp only [World.size_alloc]; omega) hbx.size
  have HRv_2 := Lib.hid (HRv_1.out.below hbb)
  have HV9_2 := Lib.hid (byts_kept HV9_1.out hbb)
  have HT_2 := Lib.hid (utf8_below HT_1.out hbb)
  have HIN_2 := Lib.hid (bin_below HIN_1.out hbb)
  have HZv_2 := Lib.hid (blk_below HZv_1.out hbb)
  have HB_2 := Lib.hid (HB_1.out.trans (hbb.mono HB_1.out.size))
  clear HRv_1 HV9_1 HT_1 HIN_1 HZv_1 HB_1
  have HRd_2 := Lib.hid (hrx.below hbo)
  have HZd_2 := Lib.hid (heap_alloc_new wb (.cells #[.int .i64 t.kind, .int .i64 t.int, .string t.text, .slice nd t.names.length md, .slice id t.items.length jd] 28))
  clear hfr hrx hbx hbo hbb hres
  have hfr := fromBytes_c l HLC.out (some ⟨G, 0, none⟩) p9 HQ9.out (wb.alloc (.cells #[.int .i64 t.kind, .int .i64 t.int, .string t.text, .slice nd t.names.length md, .slice id t.items.length jd] 28)) (byts_pre HV9_2.out) HT_2.out
  go_wp2_with fail
  refine hfr.mono ?_; rintro e wc ⟨t, nu, mu, iu, ju, ee, pp, rfl, hrx, hbx, hres⟩
  obtain ⟨rfl, rfl, rfl⟩ := HPR.out _ _ _ hres
  have hbo : Below wc.heap.size wc (wc.alloc (.cells #[.int .i64 t.kind, .int .i64 t.int, .string t.text, .slice nu t.names.length mu, .slice iu t.items.length ju] 28)) := (Below.refl _ _).alloc (Nat.le_refl _) _
  have hbb := below_trans hbx hbo
  have hszu : G < wc.heap.size := Nat.lt_of_lt_of_le (by simp only [World.size_alloc]; omega) hbx.size
  have HRv_3 := Lib.hid (HRv_2.out.below hbb)
  have HRd_3 := Lib.hid (HRd_2.out.below hbb)
  have HV9_3 := Lib.hid (byts_kept HV9_2.out hbb)
  have HT_3 := Lib.hid (utf8_below HT_2.out hbb)
  have HIN_3 := Lib.hid (bin_below HIN_2.out hbb)
  have HZv_3 := Lib.hid (blk_below HZv_2.out hbb)
  have HZd_3 := Lib.hid (blk_below HZd_2.out hbb)
  have HB_3 := Lib.hid (HB_2.out.trans (hbb.mono HB_2.out.size))
  clear HRv_2 HRd_2 HV9_2 HT_2 HIN_2 HZv_2 HZd_2 HB_2
  have HRu_3 := Lib.hid (hrx.below hbo)
  have HZu_3 := Lib.hid (heap_alloc_new wc (.cells #[.int .i64 t.kind, .int .i64 t.int, .string t.text, .slice nu t.names.length mu, .slice iu t.items.length ju] 28))
  clear hfr hrx hbx hbo hbb hres
  obtain ⟨⟨v0, v1, v2, v3, v4⟩, -⟩ := cellsOf5 HZv_3.out
  obtain ⟨⟨d0, d1, d2, d3, d4⟩, -⟩ := cellsOf5 HZd_3.out
  obtain ⟨⟨u0, u1, u2, u3, u4⟩, -⟩ := cellsOf5 HZu_3.out
  go_wp2_with fail
  refine (num_c _ _).mono ?_; rintro e w1 ⟨rfl, rfl⟩
  have heq := equal_c t t _ _ (wc.alloc (.cells #[.int .i64 t.kind, .int .i64 t.int, .string t.text, .slice nu t.names.length mu, .slice iu t.items.length ju] 28)) _ _ HRv_3.out HRd_3.out
  simp only [same_self] at heq
  go_wp2_with fail
  refine heq.mono ?_; rintro e w2 ⟨rfl, hb2⟩
  clear v0 v1 v2 v3 v4 d0 d1 d2 d3 d4 u0 u1 u2 u3 u4
  have HRd_4 := Lib.hid (HRd_3.out.below hb2)
  have HRu_4 := Lib.hid (HRu_3.out.below hb2)
  have HV9_4 := Lib.hid (byts_kept HV9_3.out hb2)
  have HIN_4 := Lib.hid (bin_below HIN_3.out hb2)
  have HZd_4 := Lib.hid (blk_below HZd_3.out hb2)
  have HZu_4 := Lib.hid (blk_below HZu_3.out hb2)
  have HB_4 := Lib.hid (HB_3.out.trans (hb2.mono HB_3.out.size))
  clear HRd_3 HRu_3 HV9_3 HIN_3 HZd_3 HZu_3 HRv_3 HZv_3 HT_3 HB_3 heq hb2
  obtain ⟨⟨d0, d1, d2, d3, d4⟩, -⟩ := cellsOf5 HZd_4.out
  obtain ⟨⟨u0, u1, u2, u3, u4⟩, -⟩ := cellsOf5 HZu_4.out
  have heq := equal_c t t _ _ w2 _ _ HRu_4.out HRd_4.out
  simp only [same_self] at heq
  go_wp2_with fail
  refine heq.mono ?_; rintro e w3 ⟨rfl, hb3⟩
  clear d0 d1 d2 d3 d4 u0 u1 u2 u3 u4
  have HRd_5 := Lib.hid (HRd_4.out.below hb3)
  have HRu_5 := Lib.hid (HRu_4.out.below hb3)
  have HV9_5 := Lib.hid (byts_kept HV9_4.out hb3)
  have HIN_5 := Lib.hid (bin_below HIN_4.out hb3)
  have HZd_5 := Lib.hid (blk_below HZd_4.out hb3)
  have HZu_5 := Lib.hid (blk_below HZu_4.out hb3)
  have HB_5 := Lib.hid (HB_4.out.trans (hb3.mono HB_4.out.size))
  clear HRd_4 HRu_4 HV9_4 HIN_4 HZd_4 HZu_4 HB_4 heq hb3
  have x1 := byts_string HV9_5.out
  have x2 := bin_string HIN_5.out c
  have hcat : (⟨l.toArray⟩ : ByteArray) ++ (⟨#[1, 2, 3]⟩ : ByteArray) = ⟨(l ++ [1, 2, 3]).toArray⟩ := by apply ByteArray.ext; simp
  go_wp2
  clear x1 x2 hcat
  go_loopw [13] (fun i wr => ∃ (j : Nat) (l' : List UInt8), j ≤ l.length ∧ i = .int .i64 j ∧ l'.length = l.length + 3 ∧ Hid (Byts wr (.slice (some ⟨G, 0, none⟩) (l.length + 3) p9) l') ∧ Hid (Upd w3 wr (some G) (some G))) (fun i _ => l.length - (intOf i).toNat)
  case atStart => exact ⟨0, l ++ [1, 2, 3], by omega, rfl, by rw [List.length_append]; rfl, HV9_5, Upd.refl _ _⟩
  case round =>
    obtain ⟨j, l', hj, rfl, hl', HW, HU⟩ := hrel
    by_cases hlt : j < l.length
    · have hst := byts_store (w := wr) (j := j) (by have h := HW.out; rw [← hl'] at h; exact h) 238
      have hce : wr.cell? ⟨G, j, none⟩ = some (.int .u8 ((l'[j]'(by omega)).toNat : Int)) := by
        have h := World.ownsRow.cellAt (g := G) (cap := p9) (by have h := HW.out; unfold Byts Row at h; rw [← hl'] at h; exact h) j (by omega)
        rw [h]; simp [show j < l'.length by omega]
      have hfz : wr.frozen? ⟨G, j, none⟩ = false := World.ownsRow.frozenAt (by have h := HW.out; unfold Byts Row at h; rw [← hl'] at h; exact h) j
      have HST := Lib.hid hst
      have HLT := Lib.hid hlt
      have HLE := Lib.hid hl'
      have hj3 : j < l.length + 3 := by omega
      clear hst
      go_wp2
      go_roundw
      case rel => exact ⟨j + 1, l'.set j 238, by have := HLT.out; omega, by go_num, by rw [List.length_set]; exact HLE.out, Lib.hid (by have h := HST.out.1; rw [HLE.out] at h; exact h), Lib.hid (HU.out.trans HST.out.2)⟩
      case measure => have := HLT.out; simp [intOf]; omega
    · obtain rfl : j = l.length := by omega
      have hzd := blk_upd HZd_5.out HU.out (by omega)
      have hzu := blk_upd HZu_5.out HU.out (by omega)
      obtain ⟨⟨d0, d1, d2, d3, d4⟩, -⟩ := cellsOf5 hzd
      obtain ⟨⟨u0, u1, u2, u3, u4⟩, -⟩ := cellsOf5 hzu
      have heq := equal_c t t _ _ wr _ _ (rep_upd HRu_5.out (by simp only [World.size_alloc]; omega) HU.out) (rep_upd HRd_5.out (by simp only [World.size_alloc]; omega) HU.out)
      simp only [same_self] at heq
      have HBB := Lib.hid (HB_5.out.trans (HU.out.below HB_5.out.size (fun g hg => by cases hg; exact HGW.out)))
      clear hlt hzd hzu
      go_wp2_with fail
      refine heq.mono ?_; rintro e w4 ⟨rfl, hb4⟩
      have HBC := Lib.hid (HBB.out.trans (hb4.mono HBB.out.size))
      have hli := live_c w4
      clear heq hb4 d0 d1 d2 d3 d4 u0 u1 u2 u3 u4
      go_wp2_with fail
      refine hli.mono ?_; rintro e w5 ⟨rfl, hb5⟩
      have HBD := Lib.hid (HBC.out.trans (hb5.mono HBC.out.size))
      clear hli hb5
      go_wp2
      go_ret
      exact ⟨rfl, HBD.out⟩
end Go.Proofs.YtjmhoccikbgigaaDoor
namespace Go.Proofs.YtjmhoccikbgigaaDoor.orderReads
open Go.ChangeShapes Go.WideShapes Go.ChangeAt Go.RowKit
open Go.ChangeMaps (open_string)
theorem reads (os : Os) {H : Type} (enc : TypeId × Value → H) : ∃ places, DataW.whole enc Tryd.prog ((laidWorld os).forCall (fun _ _ => 0) ⟨#[], #[.slice none 0 0], []⟩).memory Tryd.f6.params.toList Rows.orderReadsSpec.vars false (#[.slice none 0 0] : Array Value).toList 8 = some ([.nil], [], places) :=
  ⟨[], by kernel_rfl⟩
theorem laid_met (os : Os) : laidMet Tryd.prog Rows.orderReadsUptoRow.laid ((laidWorld os).forCall (fun _ _ => 0) ⟨#[], #[.slice none 0 0], []⟩).memory :=
  laidMet_of_run' 8 (by kernel_rfl) (by kernel_rfl)
set_option maxRecDepth 100000 in
set_option maxHeartbeats 400000 in
theorem contract (H : Type) (enc : TypeId × Value → H) (W : World) (base : Nat) (args : Array Value) (ds gs : List (DataW H)) (before : List MemPlace)
    (hval : ∀ (j : Nat) t v, Tryd.f6.params[j]? = some t → args[j]? = some v → Value.okWide Tryd.prog W .any base t v)
    (hW : DataW.Whole enc Tryd.prog Tryd.f6.params.toList Rows.orderReadsSpec.vars false W args.toList ds gs before) (hL : laidMetH Tryd.prog Rows.orderReadsUptoRow.laid W) (hk : Rows.uptoSmall H (ds ++ gs) = true) :
    Calls Tryd.prog 6 args W fun e W' => ∃ v, e = .returned v ∧ Rows.orderReadsSpec.post enc Tryd.prog Tryd.f6 false true false false W args v W' := by
  have hW' := hW
  obtain ⟨p, q, hA0, hV, rfl, hfz, hnd⟩ := hW
  have hA : DataW.TrodAll enc Tryd.prog W 0 (fun _ => true) true Tryd.f6.params.toList args.toList ds p := hA0
  rw [Tryd.params6] at hA hval
  obtain ⟨v0, vs0, d0, ds0, p0, q0, hargs, rfl, rfl, h0, r0⟩ := trodAll_cons hA
  obtain ⟨rfl, rfl, rfl⟩ := trodAll_nil r0
  obtain rfl : args = #[v0] := by cases args; simp_all
  obtain ⟨rfl, rfl⟩ := trodVars_none hV
  clear hA0
  obtain ⟨A0, l0, c0, rfl, hA0, hl0, hc0, hb0⟩ := bytes_cap (hval 0 34 v0 rfl rfl) h0
  have hbd := of_decide_eq_true hk
  simp only [List.append_nil, Rows.uptoBulkAll] at hbd
  have hT := tabs_of hL
  refine (orderReads_c A0 l0 c0 (by omega) hc0 hA0 W hl0 hT).mono fun e W1 ⟨he, hb⟩ => ?_
  subst he
  exact ⟨_, rfl, law_post (B := 4) laidOk (by kernel_rfl) rfl rfl Tryd.underlying4 hW' hb rfl⟩
set_option maxRecDepth 100000 in
theorem lifted (os : Os) (started : os.Started) (H : Type) (enc : TypeId × Value → H) (F : Stop.Interp) :
    ReturnsInHanded {} Tryd.checked os 6 .any ((Rows.OpenSpec.upto Rows.orderReadsSpec).preRow enc Tryd.prog Tryd.f6 Rows.orderReadsUptoRow.domain false Rows.orderReadsUptoRow.laid) (((Rows.OpenSpec.upto Rows.orderReadsSpec).at F).post enc Tryd.prog Tryd.f6 false true false false) := by
  obtain ⟨places, hx⟩ := reads os enc
  refine returnsInHanded_of_row (C := Tryd.checked) (s := Rows.OpenSpec.upto Rows.orderReadsSpec) own started (by kernel_rfl) Tryd.func6
    (witness_row_at (enc := enc) (C := Tryd.checked) false (laidWorld os) #[.slice none 0 0] rfl (by kernel_rfl) (by kernel_rfl) (by kernel_rfl)
      (OpenSpec.preRow_of_cond 8 hx (by kernel_rfl) (fun k hk => by cases hk; kernel_rfl) (by kernel_rfl) (laid_met os))) ?_
  intro W base args ds gs before hval hW _ hcond hsz hL _ _
  exact contract H enc W base args ds gs before hval hW hL (hcond _ rfl)
theorem said : Rows.OrderReadsUptoSaid :=
  OpenClaim.holds_of_cond 6 Tryd.f6 rfl rfl rfl rfl rfl rfl rfl ⟨rfl, rfl, rfl, rfl, rfl⟩ rfl rfl rfl rfl rfl (by kernel_rfl) Tryd.func6 (by kernel_rfl)
    (of_decide_eq_true (by kernel_rfl)) (by unfold Func.isWrapper; first | (rw [if_pos (by decide +kernel)]; kernel_rfl) | (rw [if_neg (by decide +kernel)]; exact ⟨rfl, rfl⟩))
    (fun os started H enc _ F => by rw [OpenClaim.pre_eq_preRow]; exact lifted os started H enc F)
theorem plain (f : FuncId) (fn : Func) (hf : Tryd.pinned.checked.prog.funcNamed "docket/docketlaw03.OrderReads" = some f) (hfn : Tryd.pinned.checked.prog.funcs[f]? = some fn) :
    false = Tryd.pinned.checked.prog.looks [] ∧ ∀ (j : Nat) t, fn.params[j]? = some t → Tryd.pinned.checked.prog.wantsStandIn t = false := by
  obtain rfl : f = 6 := Option.some.inj ((show Tryd.prog.funcNamed "docket/docketlaw03.OrderReads" = some 6 by kernel_rfl).symm.trans hf) |>.symm
  obtain rfl : fn = Tryd.f6 := (Option.some.inj (Tryd.func6.symm.trans hfn)).symm
  refine ⟨by kernel_rfl, fun j t ht => ?_⟩
  rw [Tryd.params6] at ht
  have hm : t ∈ [34] := by simpa using Array.mem_of_getElem? ht
  have hall : (([34] : List TypeId).all fun u => !Tryd.prog.wantsStandIn u) = true := by kernel_rfl
  exact (show Tryd.prog.wantsStandIn t = false by simpa using List.all_eq_true.1 hall t hm)
theorem card : Rows.OrderReadsUptoCardSaid :=
  Claim7.holds_tied_plain_at .later [] _ _ _ _ said (fun _ h => by cases h) (by kernel_rfl) (fun _ h => by cases h) orderReadsUpto_row_tie rfl ⟨rfl, rfl⟩ (by kernel_rfl) rfl plain (by kernel_rfl)
#print axioms card
end Go.Proofs.YtjmhoccikbgigaaDoor.orderReads
