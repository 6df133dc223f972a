/- OrderBack, for every input: the walk of the law, the row and its card. Conditions: the tables of package utf8 lie as their texts lay them; what comes in is of bulk at most 1048576. -/
import Derived.Test.YtjmhoccikbgigaaDoorLiesl
import Derived.Test.YtjmhoccikbgigaaDoorRdall
import Derived.Test.YtjmhoccikbgigaaDoorTreeread
import Derived.Test.YtjmhoccikbgigaaDoorRowkit
import Derived.Test.YtjmhoccikbgigaaDoorTabs
namespace Go.Proofs.YtjmhoccikbgigaaDoor
open Go.RowKit
/-- appending a slice that may be nil -/
theorem wpList_app_any {P : Program} {S E : TypeId} {z : Value} {size bytes : Nat} {w : World} {ops : Array Oper} {rest : List Oper} {o : Oper} {a : Act} {Q : Exit → Act → World → Prop} (ty : SlTy P S E z size bytes) (hgd : o.guard = none) (s x : Operand)
    (ho : o.op = .call { callee := .builtin .append, args := #[s, x], argTypes := #[S, S] })
    (v : Value) (n : Nat) (xs : List Value) (hs : a.eval s = v) (hown : Row w E size v n xs)
    (A : Option Addr) (m c : Nat) (news : List Value) (hx : a.eval x = .slice A m c) (hl : news.length = m * size)
    (hA : A = none → m = 0) (hnews : ∀ a, A = some a → ∀ j u, news[j]? = some u → w.cell? (a.add j) = some u) (h1 : ∀ u ∈ news, u.oneCell' = true)
    (h63 : n + m ≤ maxLen) (hbytes : (n + m) * bytes ≤ 140737488355328)
    (h : ∀ v' w', Row w' E size v' (n + m) (xs ++ news) → Upd w w' v.ownBlock v'.ownBlock → wpList P ops Q rest (a.put o.dst v') w') : wpList P ops Q (o :: rest) a w :=
  wpList_plain hgd fun _ hK => by
    obtain ⟨v', w', hr, h2, h3⟩ := run_app_any (w := w) ty o.type v n xs hown A m c news hl hA hnews h1 h63 hbytes
    unfold Oper.wp execOp
    simp only [ho, resolve, invoke, builtin, Sem.run_bind, Sem.run_pure, Result.andThen_ok, List.map_toArray, List.map_cons, List.map_nil, hs, hx, hr]
    exact hK _ _ (h v' w' h2 h3)
/-- a slice of bytes that came in -/
def BIn (w : World) (A : Option Addr) (l : List UInt8) : Prop := l = [] ∨ ∃ G o, A = some ⟨G, o, none⟩ ∧ Lie w G o (bytesV l)
theorem bin_below {w w' : World} {A : Option Addr} {l : List UInt8} (h : BIn w A l) (hb : Below w.heap.size w w') : BIn w' A l := by
  rcases h with h | ⟨G, o, h1, h2⟩
  · exact .inl h
  · exact .inr ⟨G, o, h1, lie_below h2 hb⟩
theorem bin_string {w : World} {A : Option Addr} {l : List UInt8} (h : BIn w A l) (c : Nat) : (convert 34 9 (.slice A l.length c)).run Tryd.prog w = .ok (.string ⟨l.toArray⟩) w := by
  have back : ∀ (a : Addr), (∀ j (hj : j < l.length), w.cell? (a.add j) = some (.int .u8 (l[j].toNat : Int))) → (convert 34 9 (.slice (some a) l.length c)).run Tryd.prog w = .ok (.string ⟨l.toArray⟩) w := fun a ha =>
    run_convert_bytes_back (P := Tryd.prog) w 34 9 5 a c l byTy.slice byTy.byte Tryd.underlying9 ha
  cases A with
  | none =>
    rcases h with rfl | ⟨G, o, h1, _⟩
    · exact run_convert_bytes_nil w 34 5 byTy.slice byTy.byte 0 c 9 Tryd.underlying9
    · cases h1
  | some a =>
    rcases h with rfl | ⟨G, o, h1, h2⟩
    · exact back a (fun j hj => by simp at hj)
    · obtain rfl := Option.some.inj h1
      exact back _ (fun j hj => by rw [add_none]; exact lie_byte h2 j hj)
mutual
/-- a value holds no more than its bytes -/
theorem bulk_enc : ∀ t : JV, okV t → t.bulk ≤ (enc t).length
  | .mk k n s ns is, h => by
    rw [okV] at h
    obtain ⟨hf, hi⟩ := h
    obtain ⟨f1, f2, f3, f4, f5⟩ := fits_form hf
    rw [JV.bulk]
    by_cases h4 : k = 4
    · subst h4
      have e1 := List.eq_nil_of_length_eq_zero (f3 (by decide))
      have e2 := List.eq_nil_of_length_eq_zero (f4 (by decide) (by decide))
      subst e1; subst e2
      have := encT_ge s.data.toList
      have hs : s.data.toList.length = s.size := by simp
      show 1 + s.size + strsBulk [] + JV.bulks [] ≤ (32 :: encT s.data.toList).length
      simp only [strsBulk, JV.bulks, List.length_cons]
      omega
    · have es := f2 h4
      have hz : s.size = 0 := by rw [es]; rfl
      by_cases h6 : k = 6
      · subst h6
        have h1 := bulk_encM ns is (f5 rfl) hi
        show 1 + s.size + strsBulk ns + JV.bulks is ≤ (48 :: (encM ns is ++ [1])).length
        simp only [List.length_cons, List.length_append]
        omega
      · have e1 := List.eq_nil_of_length_eq_zero (f3 h6)
        subst e1
        by_cases h5 : k = 5
        · subst h5
          have h1 := bulk_encL is hi
          show 1 + s.size + strsBulk [] + JV.bulks is ≤ (64 :: (encL is ++ [1])).length
          simp only [List.length_cons, List.length_append, strsBulk]
          omega
        · have e2 := List.eq_nil_of_length_eq_zero (f4 h5 h6)
          subst e2
          have hp : 1 ≤ (enc (.mk k n s [] [])).length := by rw [enc_tag]; simp
          simp only [strsBulk, JV.bulks]
          omega
theorem bulk_encL : ∀ l : List JV, okVs l → JV.bulks l ≤ (encL l).length
  | [], _ => by simp [JV.bulks]
  | t :: r, h => by
    rw [okVs] at h
    have h1 := bulk_enc t h.1
    have h2 := bulk_encL r h.2
    rw [JV.bulks, encL]
    simp only [List.length_cons, List.length_append]
    omega
theorem bulk_encM : ∀ (ns : List ByteArray) (l : List JV), ns.length = l.length → okVs l → strsBulk ns + JV.bulks l ≤ (encM ns l).length
  | [], [], _, _ => by simp [JV.bulks, strsBulk]
  | n :: ns, t :: r, hl, h => by
    rw [okVs] at h
    have h1 := bulk_enc t h.1
    have h2 := bulk_encM ns r (by simpa using hl) h.2
    have h3 := encT_ge n.data.toList
    have hs : n.data.toList.length = n.size := by simp
    rw [JV.bulks, strsBulk, encM]
    simp only [List.length_cons, List.length_append]
    omega
theorem encT_ge : ∀ l : List UInt8, l.length + 2 ≤ (encT l).length
  | [] => by simp [encT]
  | c :: l => by
    have h := encT_ge l
    by_cases hc : c = 0
    · subst hc; rw [flat_zero]; simp only [List.length_cons]; omega
    · rw [flat_other hc]; simp only [List.length_cons]; omega
end
set_option maxRecDepth 20000 in
set_option maxHeartbeats 8000000 in
theorem orderBack_c (t : JV) (cs : List Value) (w : World) (ok : Nat → Prop) (hr : Rep w ok t cs) (hbt : t.bulk ≤ 68719476736) (A : Option Addr) (l : List UInt8) (c : Nat) (hlc : l.length < 1099511627776) (hA : A = none → l.length = 0) (hl : BIn w A l) (hT : Lib.Utf8Tabs 0 1 w) :
    Calls Tryd.prog 9 #[.agg cs.toArray, .slice A l.length c] w fun e w' => e = .returned (.bool true) ∧ Below w.heap.size w w' := by
  obtain ⟨an, cn, ai, ci, rfl⟩ := hr.form
  obtain ⟨a0, a1, a2, a3, a4⟩ := cells5 w (.int .i64 t.kind) (.int .i64 t.int) (.string t.text) (.slice an t.names.length cn) (.slice ai t.items.length ci) 28
  have hb0 : Below w.heap.size w (w.alloc (.cells #[.int .i64 t.kind, .int .i64 t.int, .string t.text, .slice an t.names.length cn, .slice ai t.items.length ci] 28)) := (Below.refl _ _).alloc (Nat.le_refl _) _
  have HRt_0 := Lib.hid (hr.below hb0)
  have HT_0 := Lib.hid (utf8_below hT hb0)
  have HIN_0 := Lib.hid (bin_below hl hb0)
  have HB_0 := Lib.hid hb0
  clear hr hT hb0 hl
  have a0_0 := a0
  have a1_0 := a1
  have a2_0 := a2
  have a3_0 := a3
  have a4_0 := a4
  clear a0 a1 a2 a3 a4
  have hl1 := large_t t an ai cn ci (w.alloc (.cells #[.int .i64 t.kind, .int .i64 t.int, .string t.text, .slice an t.names.length cn, .slice ai t.items.length ci] 28)) ok HRt_0.out (by omega)
  go_enter Tryd.func9, Tryd.ntmps9
  go_wp2_with fail
  refine hl1.mono ?_; rintro e w1 ⟨rfl, hb1⟩
  have a0_1 := cell_below hb1 a0_0
  have a1_1 := cell_below hb1 a1_0
  have a2_1 := cell_below hb1 a2_0
  have a3_1 := cell_below hb1 a3_0
  have a4_1 := cell_below hb1 a4_0
  have HRt_1 := Lib.hid (HRt_0.out.below hb1)
  have HT_1 := Lib.hid (utf8_below HT_0.out hb1)
  have HIN_1 := Lib.hid (bin_below HIN_0.out hb1)
  have HB_1 := Lib.hid (HB_0.out.trans (hb1.mono HB_0.out.size))
  clear a0_0 a1_0 a2_0 a3_0 a4_0 HRt_0 HT_0 HIN_0 HB_0 hl1 hb1
  cases hlt : largeB t with
  | true =>
    clear hlt
    go_wp2
    go_ret
    exact ⟨rfl, HB_1.out⟩
  | false =>
    clear hlt
    have hc1 := copy_t t an ai cn ci w1 ok HRt_1.out (by omega)
    go_wp2_with fail
    refine hc1.mono ?_; rintro e w2 ⟨bn, bm, bi, bj, rfl, hr3, hb3⟩
    have a0_2 := cell_below hb3 a0_1
    have a1_2 := cell_below hb3 a1_1
    have a2_2 := cell_below hb3 a2_1
    have a3_2 := cell_below hb3 a3_1
    have a4_2 := cell_below hb3 a4_1
    have HRt_2 := Lib.hid (HRt_1.out.below hb3)
    have HT_2 := Lib.hid (utf8_below HT_1.out hb3)
    have HIN_2 := Lib.hid (bin_below HIN_1.out hb3)
    have HB_2 := Lib.hid (HB_1.out.trans (hb3.mono HB_1.out.size))
    clear a0_1 a1_1 a2_1 a3_1 a4_1 HRt_1 HT_1 HIN_1 HB_1 hc1 hb3
    have HN := Lib.hid (okN_rep t _ hr3)
    have hcb := bytes_c t (by omega) _ w2 _ hr3 HT_2.out
    go_wp2_with fail
    refine hcb.mono ?_; rintro e w3 ⟨v1, rfl, hv, hb4, hf⟩
    have a0_3 := cell_below hb4 a0_2
    have a1_3 := cell_below hb4 a1_2
    have a2_3 := cell_below hb4 a2_2
    have a3_3 := cell_below hb4 a3_2
    have a4_3 := cell_below hb4 a4_2
    have HRt_3 := Lib.hid (HRt_2.out.below hb4)
    have HT_3 := Lib.hid (utf8_below HT_2.out hb4)
    have HIN_3 := Lib.hid (bin_below HIN_2.out hb4)
    have HB_3 := Lib.hid (HB_2.out.trans (hb4.mono HB_2.out.size))
    clear a0_2 a1_2 a2_2 a3_2 a4_2 HRt_2 HT_2 HIN_2 HB_2
    have HV1_3 := Lib.hid hv
    clear hcb hr3 hv hb4 hf
    have HE1 := Lib.hid (fun (h : chk t 0 = 0) => show encOf t = enc t from if_pos h)
    have HLt := Lib.hid (encOf_len t)
    have HAR := Lib.hid (fun (h : chk t 0 = 0) => all_read t h HN.out)
    generalize chk t 0 = cc at *
    obtain ⟨A1, p1, rfl, q1, r1, s1⟩ := bytes_form HV1_3.out
    clear s1
    go_wp2_with fail
    refine (num_c _ _).mono ?_; rintro e w4 ⟨rfl, rfl⟩
    by_cases hz : cc = 0
    · subst hz
      have hL1 := HE1.out (by trivial)
      have har := HAR.out (by trivial)
      rw [← hL1] at har
      have hll : (encOf t).length < 1099511627776 := by have := HLt.out; omega
      have hfr := fromBytes_c (encOf t) hll A1 p1 ⟨q1, r1⟩ w4 (byts_lie2 HV1_3.out) HT_3.out
      clear hL1 HE1 HAR
      go_wp2_with fail
      refine hfr.mono ?_; rintro e w5 ⟨x, xn, xm, xi, xj, ex, plx, rfl, hrx, hb5, hres⟩
      rw [har] at hres
      obtain ⟨rfl, rfl, rfl⟩ := hres
      have hb6 : Below w5.heap.size w5 (w5.alloc (.cells #[.int .i64 x.kind, .int .i64 x.int, .string x.text, .slice xn x.names.length xm, .slice xi x.items.length xj] 28)) := (Below.refl _ _).alloc (Nat.le_refl _) _
      have hb7 := below_trans hb5 hb6
      obtain ⟨e0, e1, e2, e3, e4⟩ := cells5 w5 (.int .i64 x.kind) (.int .i64 x.int) (.string x.text) (.slice xn x.names.length xm) (.slice xi x.items.length xj) 28
      have a0_4 := cell_below hb7 a0_3
      have a1_4 := cell_below hb7 a1_3
      have a2_4 := cell_below hb7 a2_3
      have a3_4 := cell_below hb7 a3_3
      have a4_4 := cell_below hb7 a4_3
      have HRt_4 := Lib.hid (HRt_3.out.below hb7)
      have HV1_4 := Lib.hid (byts_kept HV1_3.out hb7)
      have HT_4 := Lib.hid (utf8_below HT_3.out hb7)
      have HIN_4 := Lib.hid (bin_below HIN_3.out hb7)
      have HB_4 := Lib.hid (HB_3.out.trans (hb7.mono HB_3.out.size))
      clear a0_3 a1_3 a2_3 a3_3 a4_3 HRt_3 HV1_3 HT_3 HIN_3 HB_3
      have HRx_4 := Lib.hid (hrx.below hb6)
      clear hfr hrx hb5 hb6 hb7 har
      have heq := equal_c x x _ _ (w5.alloc (.cells #[.int .i64 x.kind, .int .i64 x.int, .string x.text, .slice xn x.names.length xm, .slice xi x.items.length xj] 28)) _ _ HRx_4.out HRt_4.out
      simp only [same_self] at heq
      go_wp2_with fail
      refine (num_c _ _).mono ?_; rintro e w6 ⟨rfl, rfl⟩
      go_wp2_with fail
      refine heq.mono ?_; rintro e w7 ⟨rfl, hbq⟩
      have a0_5 := cell_below hbq a0_4
      have a1_5 := cell_below hbq a1_4
      have a2_5 := cell_below hbq a2_4
      have a3_5 := cell_below hbq a3_4
      have a4_5 := cell_below hbq a4_4
      have HRt_5 := Lib.hid (HRt_4.out.below hbq)
      have HV1_5 := Lib.hid (byts_kept HV1_4.out hbq)
      have HT_5 := Lib.hid (utf8_below HT_4.out hbq)
      have HIN_5 := Lib.hid (bin_below HIN_4.out hbq)
      have HB_5 := Lib.hid (HB_4.out.trans (hbq.mono HB_4.out.size))
      clear a0_4 a1_4 a2_4 a3_4 a4_4 HRt_4 HV1_4 HT_4 HIN_4 HB_4 heq hbq e0 e1 e2 e3 e4
      have HIN8 := Lib.hid (bin_below HIN_5.out ((Below.refl w7.heap.size w7).alloc (Nat.le_refl _) (.cells #[] 5)))
      have HROW8 := Lib.hid (show Row (w7.alloc (.cells #[] 5)) 5 1 (.slice (some ⟨w7.heap.size, 0, none⟩) 0 0) 0 [] from World.ownsRow_made w7 #[] 0 (Nat.zero_le _) (Nat.zero_le _) (by simp))
      have HB8 := Lib.hid ((Below.refl w7.heap.size w7).alloc (Nat.le_refl _) (.cells #[] 5))
      have HLC := Lib.hid hlc
      go_wp2_with (at_builtin; refine wpList_app_any bytTy rfl _ _ rfl _ 0 [] rfl HROW8.out A l.length c (bytesV l) rfl (by simp [bytesV]) hA (fun a ha j u hj => by
          rcases HIN8.out with h | ⟨G, o, h1, h2⟩
          · rw [h] at hj; simp [bytesV] at hj
          · rw [ha] at h1; obtain rfl := Option.some.inj h1; rw [add_none]; exact h2 j u hj) (by intro u hu; obtain ⟨x, _, rfl⟩ := List.mem_map.1 hu; rfl) (by unfold maxLen; omega) (by omega) ?_; intro v8 w8 hrow8 hu8; have HV8 := Lib.hid (show Byts w8 v8 l from by unfold Byts; simpa [bytesV] using hrow8); have HU8 := Lib.hid hu8; clear hrow8 hu8)
      have hb8 : Below w7.heap.size w7 w8 := HB8.out.trans (HU8.out.below HB8.out.size (fun g hg => by cases hg; exact Nat.le_refl _))
      have a0_6 := cell_below hb8 a0_5
      have a1_6 := cell_below hb8 a1_5
      have a2_6 := cell_below hb8 a2_5
      have a3_6 := cell_below hb8 a3_5
      have a4_6 := cell_below hb8 a4_5
      have HRt_6 := Lib.hid (HRt_5.out.below hb8)
      have HV1_6 := Lib.hid (byts_kept HV1_5.out hb8)
      have HT_6 := Lib.hid (utf8_below HT_5.out hb8)
      have HIN_6 := Lib.hid (bin_below HIN_5.out hb8)
      have HB_6 := Lib.hid (HB_5.out.trans (hb8.mono HB_5.out.size))
      clear a0_5 a1_5 a2_5 a3_5 a4_5 HRt_5 HV1_5 HT_5 HIN_5 HB_5 hb8
      obtain ⟨A8, p8, rfl, q8, r8, s8⟩ := bytes_form HV8.out
      have hfr := fromBytes_c l hlc A8 p8 ⟨q8, r8⟩ w8 (byts_lie2 HV8.out) HT_6.out
      clear s8
      go_wp2_with fail
      refine hfr.mono ?_; rintro e w9 ⟨u, un, um, ui, uj, eu, plu, rfl, hru, hb9, hres⟩
      have hb10 : Below w9.heap.size w9 (w9.alloc (.cells #[.int .i64 u.kind, .int .i64 u.int, .string u.text, .slice un u.names.length um, .slice ui u.items.length uj] 28)) := (Below.refl _ _).alloc (Nat.le_refl _) _
      have hb11 := below_trans hb9 hb10
      obtain ⟨e0, e1, e2, e3, e4⟩ := cells5 w9 (.int .i64 u.kind) (.int .i64 u.int) (.string u.text) (.slice un u.names.length um) (.slice ui u.items.length uj) 28
      have a0_7 := cell_below hb11 a0_6
      have a1_7 := cell_below hb11 a1_6
      have a2_7 := cell_below hb11 a2_6
      have a3_7 := cell_below hb11 a3_6
      have a4_7 := cell_below hb11 a4_6
      have HRt_7 := Lib.hid (HRt_6.out.below hb11)
      have HV1_7 := Lib.hid (byts_kept HV1_6.out hb11)
      have HT_7 := Lib.hid (utf8_below HT_6.out hb11)
      have HIN_7 := Lib.hid (bin_below HIN_6.out hb11)
      have HB_7 := Lib.hid (HB_6.out.trans (hb11.mono HB_6.out.size))
      clear a0_6 a1_6 a2_6 a3_6 a4_6 HRt_6 HV1_6 HT_6 HIN_6 HB_6
      have HRu_7 := Lib.hid (hru.below hb10)
      have HRES := Lib.hid hres
      clear hfr hru hb9 hb10 hb11 hres
      have e0_7 := e0
      have e1_7 := e1
      have e2_7 := e2
      have e3_7 := e3
      have e4_7 := e4
      clear e0 e1 e2 e3 e4
      go_wp2_with fail
      refine (num_c _ _).mono ?_; rintro e w10 ⟨rfl, rfl⟩
      cases hpa : pAll l with
      | bad e2 p2 =>
        have hre := HRES.out
        rw [hpa] at hre
        have hne := hre.2.2.2
        have hee := hre.2.1
        clear hre
        subst hee
        have hnb : ((eu : Int) == 0) = false := by simp [hne]
        have hli := live_c (w9.alloc (.cells #[.int .i64 u.kind, .int .i64 u.int, .string u.text, .slice un u.names.length um, .slice ui u.items.length uj] 28))
        have HBB := Lib.hid HB_7.out
        go_wp2_with fail
        refine hli.mono ?_; rintro e w11 ⟨rfl, hb11⟩
        have HBC := Lib.hid (HBB.out.trans (hb11.mono HBB.out.size))
        clear hli hb11
        go_wp2
        go_ret
        exact ⟨rfl, HBC.out⟩
      | ok v2 q2 =>
        have hre := HRES.out
        rw [hpa] at hre
        obtain ⟨rfl, rfl, _⟩ := hre
        obtain ⟨hck, hnn, henc⟩ := all_of l u q2 hpa
        have hbu : u.bulk ≤ 1099511627776 := by have := bulk_enc u (okV_chk u 0 hck); rw [henc] at this; have := HLC.out; omega
        have hcb := bytes_c u hbu _ (w9.alloc (.cells #[.int .i64 u.kind, .int .i64 u.int, .string u.text, .slice un u.names.length um, .slice ui u.items.length uj] 28)) _ HRu_7.out HT_7.out
        have HEU := Lib.hid (show encOf u = l from (if_pos hck).trans henc)
        have HCK := Lib.hid hck
        clear hpa hck hnn henc
        go_wp2_with fail
        refine hcb.mono ?_; rintro e w11 ⟨v9, rfl, hv9, hb12, _⟩
        have HIN_8 := Lib.hid (bin_below HIN_7.out hb12)
        have HB_8 := Lib.hid (HB_7.out.trans (hb12.mono HB_7.out.size))
        clear HIN_7 HRt_7 HRu_7 HT_7 a0_7 a1_7 a2_7 a3_7 a4_7 e0_7 e1_7 e2_7 e3_7 e4_7 HV1_7 HB_7
        rw [HEU.out] at hv9
        have y1 := byts_string hv9
        have y2 := bin_string HIN_8.out c
        have hli := live_c w11
        clear hcb hb12 hv9
        rw [HCK.out]
        go_wp2_with fail
        refine (num_c _ _).mono ?_; rintro e w12 ⟨rfl, rfl⟩
        go_wp2_with fail
        refine hli.mono ?_; rintro e w13 ⟨rfl, hb13⟩
        have HBC := Lib.hid (HB_8.out.trans (hb13.mono HB_8.out.size))
        clear hli hb13 y1 y2
        go_wp2
        go_ret
        exact ⟨rfl, HBC.out⟩
    · have hzb : (cc == 0) = false := by simpa using hz
      clear hz
      have HIN8 := Lib.hid (bin_below HIN_3.out ((Below.refl w4.heap.size w4).alloc (Nat.le_refl _) (.cells #[] 5)))
      have HROW8 := Lib.hid (show Row (w4.alloc (.cells #[] 5)) 5 1 (.slice (some ⟨w4.heap.size, 0, none⟩) 0 0) 0 [] from World.ownsRow_made w4 #[] 0 (Nat.zero_le _) (Nat.zero_le _) (by simp))
      have HB8 := Lib.hid ((Below.refl w4.heap.size w4).alloc (Nat.le_refl _) (.cells #[] 5))
      have HLC := Lib.hid hlc
      go_wp2_with (at_builtin; refine wpList_app_any bytTy rfl _ _ rfl _ 0 [] rfl HROW8.out A l.length c (bytesV l) rfl (by simp [bytesV]) hA (fun a ha j u hj => by
          rcases HIN8.out with h | ⟨G, o, h1, h2⟩
          · rw [h] at hj; simp [bytesV] at hj
          · rw [ha] at h1; obtain rfl := Option.some.inj h1; rw [add_none]; exact h2 j u hj) (by intro u hu; obtain ⟨x, _, rfl⟩ := List.mem_map.1 hu; rfl) (by unfold maxLen; omega) (by omega) ?_; intro v8 w8 hrow8 hu8; have HV8 := Lib.hid (show Byts w8 v8 l from by unfold Byts; simpa [bytesV] using hrow8); have HU8 := Lib.hid hu8; clear hrow8 hu8)
      have hb8 : Below w4.heap.size w4 w8 := HB8.out.trans (HU8.out.below HB8.out.size (fun g hg => by cases hg; exact Nat.le_refl _))
      have a0_4 := cell_below hb8 a0_3
      have a1_4 := cell_below hb8 a1_3
      have a2_4 := cell_below hb8 a2_3
      have a3_4 := cell_below hb8 a3_3
      have a4_4 := cell_below hb8 a4_3
      have HRt_4 := Lib.hid (HRt_3.out.below hb8)
      have HV1_4 := Lib.hid (byts_kept HV1_3.out hb8)
      have HT_4 := Lib.hid (utf8_below HT_3.out hb8)
      have HIN_4 := Lib.hid (bin_below HIN_3.out hb8)
      have HB_4 := Lib.hid (HB_3.out.trans (hb8.mono HB_3.out.size))
      clear a0_3 a1_3 a2_3 a3_3 a4_3 HRt_3 HV1_3 HT_3 HIN_3 HB_3 hb8
      obtain ⟨A8, p8, rfl, q8, r8, s8⟩ := bytes_form HV8.out
      have hfr := fromBytes_c l hlc A8 p8 ⟨q8, r8⟩ w8 (byts_lie2 HV8.out) HT_4.out
      clear s8
      go_wp2_with fail
      refine hfr.mono ?_; rintro e w9 ⟨u, un, um, ui, uj, eu, plu, rfl, hru, hb9, hres⟩
      have hb10 : Below w9.heap.size w9 (w9.alloc (.cells #[.int .i64 u.kind, .int .i64 u.int, .string u.text, .slice un u.names.length um, .slice ui u.items.length uj] 28)) := (Below.refl _ _).alloc (Nat.le_refl _) _
      have hb11 := below_trans hb9 hb10
      obtain ⟨e0, e1, e2, e3, e4⟩ := cells5 w9 (.int .i64 u.kind) (.int .i64 u.int) (.string u.text) (.slice un u.names.length um) (.slice ui u.items.length uj) 28
      have a0_5 := cell_below hb11 a0_4
      have a1_5 := cell_below hb11 a1_4
      have a2_5 := cell_below hb11 a2_4
      have a3_5 := cell_below hb11 a3_4
      have a4_5 := cell_below hb11 a4_4
      have HRt_5 := Lib.hid (HRt_4.out.below hb11)
      have HV1_5 := Lib.hid (byts_kept HV1_4.out hb11)
      have HT_5 := Lib.hid (utf8_below HT_4.out hb11)
      have HIN_5 := Lib.hid (bin_below HIN_4.out hb11)
      have HB_5 := Lib.hid (HB_4.out.trans (hb11.mono HB_4.out.size))
      clear a0_4 a1_4 a2_4 a3_4 a4_4 HRt_4 HV1_4 HT_4 HIN_4 HB_4
      have HRu_5 := Lib.hid (hru.below hb10)
      have HRES := Lib.hid hres
      clear hfr hru hb9 hb10 hb11 hres
      have e0_5 := e0
      have e1_5 := e1
      have e2_5 := e2
      have e3_5 := e3
      have e4_5 := e4
      clear e0 e1 e2 e3 e4
      go_wp2_with fail
      refine (num_c _ _).mono ?_; rintro e w10 ⟨rfl, rfl⟩
      cases hpa : pAll l with
      | bad e2 p2 =>
        have hre := HRES.out
        rw [hpa] at hre
        have hne := hre.2.2.2
        have hee := hre.2.1
        clear hre
        subst hee
        have hnb : ((eu : Int) == 0) = false := by simp [hne]
        have hli := live_c (w9.alloc (.cells #[.int .i64 u.kind, .int .i64 u.int, .string u.text, .slice un u.names.length um, .slice ui u.items.length uj] 28))
        have HBB := Lib.hid HB_5.out
        go_wp2_with fail
        refine hli.mono ?_; rintro e w11 ⟨rfl, hb11⟩
        have HBC := Lib.hid (HBB.out.trans (hb11.mono HBB.out.size))
        clear hli hb11
        go_wp2
        go_ret
        exact ⟨rfl, HBC.out⟩
      | ok v2 q2 =>
        have hre := HRES.out
        rw [hpa] at hre
        obtain ⟨rfl, rfl, _⟩ := hre
        obtain ⟨hck, hnn, henc⟩ := all_of l u q2 hpa
        have hbu : u.bulk ≤ 1099511627776 := by have := bulk_enc u (okV_chk u 0 hck); rw [henc] at this; have := HLC.out; omega
        have hcb := bytes_c u hbu _ (w9.alloc (.cells #[.int .i64 u.kind, .int .i64 u.int, .string u.text, .slice un u.names.length um, .slice ui u.items.length uj] 28)) _ HRu_5.out HT_5.out
        have HEU := Lib.hid (show encOf u = l from (if_pos hck).trans henc)
        have HCK := Lib.hid hck
        clear hpa hck hnn henc
        go_wp2_with fail
        refine hcb.mono ?_; rintro e w11 ⟨v9, rfl, hv9, hb12, _⟩
        have HIN_6 := Lib.hid (bin_below HIN_5.out hb12)
        have HB_6 := Lib.hid (HB_5.out.trans (hb12.mono HB_5.out.size))
        clear HIN_5 HRt_5 HRu_5 HT_5 a0_5 a1_5 a2_5 a3_5 a4_5 e0_5 e1_5 e2_5 e3_5 e4_5 HV1_5 HB_5
        rw [HEU.out] at hv9
        have y1 := byts_string hv9
        have y2 := bin_string HIN_6.out c
        have hli := live_c w11
        clear hcb hb12 hv9
        rw [HCK.out]
        go_wp2_with fail
        refine (num_c _ _).mono ?_; rintro e w12 ⟨rfl, rfl⟩
        go_wp2_with fail
        refine hli.mono ?_; rintro e w13 ⟨rfl, hb13⟩
        have HBC := Lib.hid (HB_6.out.trans (hb13.mono HB_6.out.size))
        clear hli hb13 y1 y2
        go_wp2
        go_ret
        exact ⟨rfl, HBC.out⟩
end Go.Proofs.YtjmhoccikbgigaaDoor
namespace Go.Proofs.YtjmhoccikbgigaaDoor
open Go.ChangeShapes Go.WideShapes Go.RowKit Go.Deep
theorem bulk_lits {H : Type} (k : IntKind) (zs : List Int) : Rows.uptoBulkAll (lits (H := H) k zs) = zs.length := by
  induction zs with
  | nil => rfl
  | cons z r ih =>
    show Rows.uptoBulkAll (DataW.lit (.int k z) :: lits k r) = _
    rw [Rows.uptoBulkAll, ih, Rows.uptoBulk, List.length_cons]
    · omega
    · intro b h; cases h
theorem wf_u8 {n : Int} (h : (Lit.int .u8 n).wf = true) : 0 ≤ n ∧ n ≤ 255 := by
  simp [Lit.wf, IntKind.min, IntKind.max, IntKind.bits, IntKind.signed] at h; omega
theorem bytes_of {P : Program} {T E : TypeId} {H : Type} {enc : TypeId × Value → H} {W : World} {base : Nat} {spare : Nat → Bool} {held : Bool} {r : Reach} {b0 : Nat} {v : Value} {d : DataW H} {p : List MemPlace}
    (ht : P.underlying T = some (.slice E)) (he : P.underlying E = some (.int .u8)) (hc : P.cellsOf E = 1) (hv : Value.okWide P W r b0 T v) (h : DataW.Trod enc P W base spare held T v d p) :
    ∃ (A : Option Addr) (l : List UInt8) (c : Nat), v = .slice A l.length c ∧ (A = none → l.length = 0) ∧ BIn W A l ∧ l.length ≤ Rows.uptoBulk d := by
  obtain ⟨a0, len0, cap0, rfl⟩ := okWide_slice ht hv
  obtain ⟨fuel, hf⟩ := h
  have hf' : DataW.trod enc P W base spare held fuel T [.slice a0 len0 cap0] = some (d, p) := hf
  rcases open_ints ht he hc hf' with ⟨h1, h2⟩ | ⟨a, len, cap, zs, h1, _, hlc, _, hz, h2, hcell, hwf⟩
  · injection h1 with h1 _
    injection h1 with e1 e2 e3
    subst e1; subst e2; subst e3
    exact ⟨none, [], 0, rfl, fun _ => rfl, .inl rfl, Nat.zero_le _⟩
  · injection h1 with h1 _
    injection h1 with e1 e2 e3
    subst e1; subst e2; subst e3
    injection h2 with h2 _
    have hlz : len0 ≤ zs.length := by rw [hz]; split <;> omega
    have hl : ((zs.take len0).map (fun z => UInt8.ofNat z.toNat)).length = len0 := by rw [List.length_map, List.length_take]; omega
    refine ⟨some a, (zs.take len0).map (fun z => UInt8.ofNat z.toNat), cap0, by rw [hl], (fun h => (by cases h)), ?_, ?_⟩
    · by_cases h0 : len0 = 0
      · left; subst h0; simp
      · right
        have hsp : a.spot = none := spot_none (a := a) (v := .int .u8 (zs.getD 0 0)) (by have := hcell 0 (by omega); simpa [Addr.add] using this)
        obtain ⟨B, o, sp⟩ := a
        obtain rfl : sp = none := hsp
        refine ⟨B, o, rfl, fun j u hj => ?_⟩
        unfold bytesV at hj
        rw [List.map_map, List.getElem?_map] at hj
        have hjl : j < len0 := by
          rcases Nat.lt_or_ge j len0 with h | h
          · exact h
          · rw [List.getElem?_eq_none (by rw [List.length_take]; omega)] at hj; cases hj
        have hjz : j < zs.length := by omega
        rw [List.getElem?_take, if_pos hjl, List.getElem?_eq_getElem hjz] at hj
        injection hj with hj
        have h4 := hcell j hjz
        rw [add_none] at h4
        have h5 := wf_u8 (hwf zs[j] (List.getElem_mem hjz))
        rw [h4, ← hj]
        congr 2
        show zs.getD j 0 = (((UInt8.ofNat zs[j].toNat).toNat : Nat) : Int)
        rw [UInt8.toNat_ofNat', List.getD, List.getElem?_eq_getElem hjz, Option.getD_some]
        omega
    · rw [hl, h2, Rows.uptoBulk, bulk_lits, List.length_take]
      omega
set_option maxRecDepth 100000 in
theorem bytes_open {H : Type} {enc : TypeId × Value → H} {W : World} {base : Nat} {spare : Nat → Bool} {held : Bool} {r : Reach} {b0 : Nat} {v : Value} {d : DataW H} {p : List MemPlace} (hv : Value.okWide Tryd.prog W r b0 34 v) (h : DataW.Trod enc Tryd.prog W base spare held 34 v d p) :
    ∃ (A : Option Addr) (l : List UInt8) (c : Nat), v = .slice A l.length c ∧ (A = none → l.length = 0) ∧ BIn W A l ∧ l.length ≤ Rows.uptoBulk d :=
  bytes_of byTy.slice byTy.byte (by kernel_rfl) hv h
end Go.Proofs.YtjmhoccikbgigaaDoor
namespace Go.Proofs.YtjmhoccikbgigaaDoor.orderBack
open Go.ChangeShapes Go.WideShapes Go.ChangeAt Go.RowKit
open Go.ChangeMaps (open_string)
theorem reads (os : Os) {H : Type} (enc : TypeId × Value → H) : ∃ places, DataW.whole enc Tryd.prog ((laidWorld os).forCall (fun _ _ => 0) ⟨#[], #[.agg #[.int .i64 0, .int .i64 0, .string ⟨#[]⟩, .slice none 0 0, .slice none 0 0], .slice none 0 0], []⟩).memory Tryd.f9.params.toList Rows.orderBackSpec.vars false (#[.agg #[.int .i64 0, .int .i64 0, .string ⟨#[]⟩, .slice none 0 0, .slice none 0 0], .slice none 0 0] : Array Value).toList 8 = some ([.agg [.lit (.int .i64 0), .lit (.int .i64 0), .lit (.string []), .nil, .nil], .nil], [], places) :=
  ⟨[], by kernel_rfl⟩
theorem laid_met (os : Os) : laidMet Tryd.prog Rows.orderBackUptoRow.laid ((laidWorld os).forCall (fun _ _ => 0) ⟨#[], #[.agg #[.int .i64 0, .int .i64 0, .string ⟨#[]⟩, .slice none 0 0, .slice none 0 0], .slice none 0 0], []⟩).memory :=
  laidMet_of_run' 8 (by kernel_rfl) (by kernel_rfl)
set_option maxRecDepth 100000 in
set_option maxHeartbeats 400000 in
theorem contract (H : Type) (enc : TypeId × Value → H) (W : World) (base : Nat) (args : Array Value) (ds gs : List (DataW H)) (before : List MemPlace)
    (hval : ∀ (j : Nat) t v, Tryd.f9.params[j]? = some t → args[j]? = some v → Value.okWide Tryd.prog W .any base t v)
    (hW : DataW.Whole enc Tryd.prog Tryd.f9.params.toList Rows.orderBackSpec.vars false W args.toList ds gs before) (hL : laidMetH Tryd.prog Rows.orderBackUptoRow.laid W) (hk : Rows.uptoSmall H (ds ++ gs) = true) :
    Calls Tryd.prog 9 args W fun e W' => ∃ v, e = .returned v ∧ Rows.orderBackSpec.post enc Tryd.prog Tryd.f9 false true false false W args v W' := by
  have hW' := hW
  obtain ⟨p, q, hA0, hV, rfl, hfz, hnd⟩ := hW
  have hA : DataW.TrodAll enc Tryd.prog W 0 (fun _ => true) true Tryd.f9.params.toList args.toList ds p := hA0
  rw [Tryd.params9] at hA hval
  obtain ⟨v0, vs0, d0, ds0, p0, q0, hargs, rfl, rfl, h0, r0⟩ := trodAll_cons hA
  obtain ⟨v1, vs1, d1, ds1, p1, q1, rfl, rfl, rfl, h1, r1⟩ := trodAll_cons r0
  obtain ⟨rfl, rfl, rfl⟩ := trodAll_nil r1
  obtain rfl : args = #[v0, v1] := by cases args; simp_all
  obtain ⟨rfl, rfl⟩ := trodVars_none hV
  clear hA0
  obtain ⟨t0, cs0, rfl, hr0, hb0⟩ := value_open (hval 0 28 v0 rfl rfl) h0
  obtain ⟨A1, l1, c1, rfl, hA1, hl1, hb1⟩ := bytes_open (hval 1 34 v1 rfl rfl) h1
  have hbd := of_decide_eq_true hk
  simp only [List.append_nil, Rows.uptoBulkAll] at hbd
  have hT := tabs_of hL
  refine (orderBack_c t0 cs0 W _ hr0 (by omega) A1 l1 c1 (by omega) hA1 hl1 hT).mono fun e W1 ⟨he, hb⟩ => ?_
  subst he
  exact ⟨_, rfl, law_post (B := 4) laidOk (by kernel_rfl) rfl rfl Tryd.underlying4 hW' hb rfl⟩
set_option maxRecDepth 100000 in
theorem lifted (os : Os) (started : os.Started) (H : Type) (enc : TypeId × Value → H) (F : Stop.Interp) :
    ReturnsInHanded {} Tryd.checked os 9 .any ((Rows.OpenSpec.upto Rows.orderBackSpec).preRow enc Tryd.prog Tryd.f9 Rows.orderBackUptoRow.domain false Rows.orderBackUptoRow.laid) (((Rows.OpenSpec.upto Rows.orderBackSpec).at F).post enc Tryd.prog Tryd.f9 false true false false) := by
  obtain ⟨places, hx⟩ := reads os enc
  refine returnsInHanded_of_row (C := Tryd.checked) (s := Rows.OpenSpec.upto Rows.orderBackSpec) own started (by kernel_rfl) Tryd.func9
    (witness_row_at (enc := enc) (C := Tryd.checked) false (laidWorld os) #[.agg #[.int .i64 0, .int .i64 0, .string ⟨#[]⟩, .slice none 0 0, .slice none 0 0], .slice none 0 0] rfl (by kernel_rfl) (by kernel_rfl) (by kernel_rfl)
      (OpenSpec.preRow_of_cond 8 hx (by kernel_rfl) (fun k hk => by cases hk; kernel_rfl) (by kernel_rfl) (laid_met os))) ?_
  intro W base args ds gs before hval hW _ hcond hsz hL _ _
  exact contract H enc W base args ds gs before hval hW hL (hcond _ rfl)
theorem said : Rows.OrderBackUptoSaid :=
  OpenClaim.holds_of_cond 9 Tryd.f9 rfl rfl rfl rfl rfl rfl rfl ⟨rfl, rfl, rfl, rfl, rfl⟩ rfl rfl rfl rfl rfl (by kernel_rfl) Tryd.func9 (by kernel_rfl)
    (of_decide_eq_true (by kernel_rfl)) (by unfold Func.isWrapper; first | (rw [if_pos (by decide +kernel)]; kernel_rfl) | (rw [if_neg (by decide +kernel)]; exact ⟨rfl, rfl⟩))
    (fun os started H enc _ F => by rw [OpenClaim.pre_eq_preRow]; exact lifted os started H enc F)
theorem plain (f : FuncId) (fn : Func) (hf : Tryd.pinned.checked.prog.funcNamed "docket/docketlaw03.OrderBack" = some f) (hfn : Tryd.pinned.checked.prog.funcs[f]? = some fn) :
    false = Tryd.pinned.checked.prog.looks [] ∧ ∀ (j : Nat) t, fn.params[j]? = some t → Tryd.pinned.checked.prog.wantsStandIn t = false := by
  obtain rfl : f = 9 := Option.some.inj ((show Tryd.prog.funcNamed "docket/docketlaw03.OrderBack" = some 9 by kernel_rfl).symm.trans hf) |>.symm
  obtain rfl : fn = Tryd.f9 := (Option.some.inj (Tryd.func9.symm.trans hfn)).symm
  refine ⟨by kernel_rfl, fun j t ht => ?_⟩
  rw [Tryd.params9] at ht
  have hm : t ∈ [28, 34] := by simpa using Array.mem_of_getElem? ht
  have hall : (([28, 34] : List TypeId).all fun u => !Tryd.prog.wantsStandIn u) = true := by kernel_rfl
  exact (show Tryd.prog.wantsStandIn t = false by simpa using List.all_eq_true.1 hall t hm)
theorem card : Rows.OrderBackUptoCardSaid :=
  Claim7.holds_tied_plain_at .later [] _ _ _ _ said (fun _ h => by cases h) (by kernel_rfl) (fun _ h => by cases h) orderBackUpto_row_tie rfl ⟨rfl, rfl⟩ (by kernel_rfl) rfl plain (by kernel_rfl)
#print axioms card
end Go.Proofs.YtjmhoccikbgigaaDoor.orderBack
