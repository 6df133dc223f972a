/- The walk of written. Conditions: texts are characters; each object has a name for each item; what is there and what comes in has less than 2 to the 45 bytes. -/
import Derived.Test.YtbkbokfegjodnaaDoorQuow
import Derived.Test.YtbkbokfegjodnaaDoorPrinta
import Derived.Test.YtbkbokfegjodnaaDoorBasic
namespace Go.Proofs.YtbkbokfegjodnaaDoor
open Go.RowKit
def WritSaid (m : Nat) : Prop := ∀ (t : JV), t.size ≤ m → okT t → okW t → ∀ (cs : List Value) (w : World) (B : Nat) (v : Value) (l : List UInt8), Rep w (fun b => b < B) t cs → Buf w B 5 v l → B ≤ w.heap.size →
    Lib.TabBelow Tryd.prog B w "internal/strconv.uint64pow10" .u64 Lib.pow10Tab → l.length + 24 * t.bulk < 35184372088832 →
    Calls Tryd.prog 49 #[v, .agg cs.toArray] w fun e w' => ∃ v', e = .returned v' ∧ Buf w' B 5 v' (l ++ jput t) ∧ K5 B w w'
theorem vt_ne : 28 ≠ 5 := by decide
/-- the law of a literal's append where the world holds a block more -/
theorem wpList_litA {ops : Array Oper} {rest : List Oper} {o : Oper} {a : Act} {w w1 : World} {Q : Exit → Act → World → Prop} (bs : List UInt8) (hgd : o.guard = none) (s x : Operand)
    (ho : o.op = .call { callee := .builtin .append, args := #[s, x], argTypes := #[63, 63] })
    (B : Nat) (v : Value) (l : List UInt8) (hs : a.eval s = v) (b : Obj) (hown : Buf (w1.alloc b) B 5 v l) (hw : w = (w1.alloc b).alloc (.cells (bs.map byteV).toArray 5))
    (hx : a.eval x = .slice (some ⟨w1.heap.size + 1, 0, none⟩) bs.length bs.length) (hlen : l.length + bs.length ≤ 140737488355328) (hB : B ≤ (w1.alloc b).heap.size)
    (h : ∀ v' w', Buf w' B 5 v' (l ++ bs) → K5 B (w1.alloc b) w' → wpList Tryd.prog ops Q rest (a.put o.dst v') w') : wpList Tryd.prog ops Q (o :: rest) a w :=
  wpList_lit bs hgd s x ho B v l hs hown hw (by rw [World.size_alloc]; exact hx) hlen hB h
set_option maxRecDepth 20000 in
set_option maxHeartbeats 16000000 in
theorem writ_step (m : Nat) (ih : WritSaid m) : WritSaid (m + 1) := by
  intro t hm hok hwv cs w B v l hr hv hB htab hl
  have hoi := rep_okI t cs hr
  have hel := jput_len t hoi
  cases t with
  | mk k n s ns is =>
  rw [rep_mk] at hr
  obtain ⟨hk, hn, hs, an, cn, ai, ci, rfl, hcn, hci, hst, hit⟩ := hr
  rw [okT] at hok
  rw [okW] at hwv
  rw [okI] at hoi
  have hb0 : Below w.heap.size w (w.alloc (.cells #[.int .i64 k, .int .i64 n, .string s, .slice an ns.length cn, .slice ai is.length ci] 28)) := (Below.refl _ _).alloc (Nat.le_refl _) _
  have hv0 := buf_ext hv hb0
  have HK0 := Lib.hid (K5.of_below hb0 hB)
  have hB0 : B ≤ ((w.alloc (.cells #[.int .i64 k, .int .i64 n, .string s, .slice an ns.length cn, .slice ai is.length ci] 28))).heap.size := HK0.out.size |> Nat.le_trans hB
  obtain ⟨a0, a1, a2, a3, a4⟩ := cells5 w (.int .i64 k) (.int .i64 n) (.string s) (.slice an ns.length cn) (.slice ai is.length ci) 28
  have hss : s.size ≤ 24 * (JV.mk k n s ns is).bulk := by rw [JV.bulk]; omega
  rcases (show k = 0 ∨ k ≠ 0 by omega) with rfl | h0
  · as_aux_lemma =>
    have HE := Lib.hid (show jput (.mk 0 n s ns is) = [110, 117, 108, 108] by rw [jput]; simp)
    clear hok hst hit hv hwv hoi ih htab
    go_enter Tryd.func49, Tryd.ntmps49
    go_wp2_with (at_builtin; refine wpList_strK ⟨#[110, 117, 108, 108]⟩ rfl _ _ rfl B v l rfl hv0 rfl (by show l.length + 4 ≤ _; omega) hB0 ?_; intro v2 w2 hv2 hk2; have HR := Lib.hid (And.intro hv2 (HK0.out.trans hk2)); clear hv2 hk2)
    go_ret
    exact ⟨_, rfl, by rw [HE.out]; exact HR.out.1, HR.out.2⟩
  rcases (show k = 1 ∨ k ≠ 1 by omega) with rfl | h1
  · as_aux_lemma =>
    have HE := Lib.hid (show jput (.mk 1 n s ns is) = [102, 97, 108, 115, 101] by rw [jput]; simp)
    clear hok hst hit hv hwv hoi ih htab
    go_enter Tryd.func49, Tryd.ntmps49
    go_wp2_with (at_builtin; refine wpList_strK ⟨#[102, 97, 108, 115, 101]⟩ rfl _ _ rfl B v l rfl hv0 rfl (by show l.length + 5 ≤ _; omega) hB0 ?_; intro v2 w2 hv2 hk2; have HR := Lib.hid (And.intro hv2 (HK0.out.trans hk2)); clear hv2 hk2)
    go_ret
    exact ⟨_, rfl, by rw [HE.out]; exact HR.out.1, HR.out.2⟩
  rcases (show k = 2 ∨ k ≠ 2 by omega) with rfl | h2
  · as_aux_lemma =>
    have HE := Lib.hid (show jput (.mk 2 n s ns is) = [116, 114, 117, 101] by rw [jput]; simp)
    clear hok hst hit hv hwv hoi ih htab
    go_enter Tryd.func49, Tryd.ntmps49
    go_wp2_with (at_builtin; refine wpList_strK ⟨#[116, 114, 117, 101]⟩ rfl _ _ rfl B v l rfl hv0 rfl (by show l.length + 4 ≤ _; omega) hB0 ?_; intro v2 w2 hv2 hk2; have HR := Lib.hid (And.intro hv2 (HK0.out.trans hk2)); clear hv2 hk2)
    go_ret
    exact ⟨_, rfl, by rw [HE.out]; exact HR.out.1, HR.out.2⟩
  rcases (show k = 3 ∨ k ≠ 3 by omega) with rfl | h3
  · as_aux_lemma =>
    have HE := Lib.hid (show jput (.mk 3 n s ns is) = Lib.itoa n by rw [jput]; simp)
    have hai := appInt_c B v l n hn ((w.alloc (.cells #[.int .i64 3, .int .i64 n, .string s, .slice an ns.length cn, .slice ai is.length ci] 28))) hv0 (by omega) hB0 (htab.on (HK0.out.below))
    clear hok hst hit hv hwv hoi ih htab
    go_enter Tryd.func49, Tryd.ntmps49
    go_wp2_with fail
    refine hai.mono ?_; rintro e w2 ⟨v2, rfl, hv2, hk2⟩
    have HR := Lib.hid (And.intro hv2 (HK0.out.trans hk2))
    clear hv2 hk2 hai
    go_wp2
    go_ret
    exact ⟨_, rfl, by rw [HE.out]; exact HR.out.1, HR.out.2⟩
  rcases (show k = 4 ∨ k ≠ 4 by omega) with rfl | h4
  · as_aux_lemma =>
    have HE := Lib.hid (show jput (.mk 4 n s ns is) = jq s.data.toList by rw [jput]; simp)
    have hqu := quoted_c s (hwv.1 rfl) B v l ((w.alloc (.cells #[.int .i64 4, .int .i64 n, .string s, .slice an ns.length cn, .slice ai is.length ci] 28))) hv0 (by rw [JV.bulk] at hl; omega) hB0
    clear hok hst hit hv hwv hoi ih htab
    go_enter Tryd.func49, Tryd.ntmps49
    go_wp2_with fail
    refine hqu.mono ?_; rintro e w2 ⟨v2, rfl, hv2, hk2⟩
    have HR := Lib.hid (And.intro hv2 (HK0.out.trans hk2))
    clear hv2 hk2 hqu
    go_wp2
    go_ret
    exact ⟨_, rfl, by rw [HE.out]; exact HR.out.1, HR.out.2⟩
  rcases (show k = 6 ∨ k ≠ 6 by omega) with rfl | h6
  · have HE := Lib.hid (show jput (.mk 6 n s ns is) = 123 :: (jputM true ns is ++ [125]) by rw [jput]; simp)
    have hni := hok.1 rfl
    have HNV := Lib.hid (hwv.2.1 rfl)
    rw [HE.out] at hel
    have hbl : l.length + (jputM true ns is).length + 3 < 35184372088832 := by simp only [List.length_cons, List.length_append, List.length_nil] at hel; omega
    rw [JV.bulk] at hl
    have HIH := Lib.hid ih
    have HOK := Lib.hid hok.2
    have HWV := Lib.hid hwv.2.2
    have HOI := Lib.hid hoi.2
    have HTAB := Lib.hid (htab.on HK0.out.below)
    have HSZ := Lib.hid (show ∀ t ∈ is, t.size ≤ m from fun t ht => by have h1 := JV.size_le ht; rw [JV.size] at hm; omega)
    have HIT := Lib.hid (hit.below hb0)
    have HST := Lib.hid (hst.below hb0)
    have HBX := Lib.hid (heap_alloc_new w (.cells #[.int .i64 6, .int .i64 n, .string s, .slice an ns.length cn, .slice ai is.length ci] 28))
    unfold maxLen at hci hcn
    clear hok hst hit hv hwv hoi ih htab hb0
    go_enter Tryd.func49, Tryd.ntmps49
    go_wp2_with (at_builtin; refine wpList_litA [123] rfl _ _ rfl B v l rfl _ hv0 rfl rfl (by simp only [List.length_cons, List.length_nil]; omega) hB0 ?_; intro v2 w2 hv2 hk2; have HV := Lib.hid hv2; have HK := Lib.hid hk2; have r4 := (cellsOf5 (hk2.block HBX.out vt_ne)).1.2.2.2.2; clear hv2 hk2 hv0)
    go_loopw [0, 45] (fun b i wr => ∃ j : Nat, j ≤ is.length ∧ i = .int .i64 j ∧ Hid (Buf wr B 5 b (l ++ 123 :: jputM true (ns.take j) (is.take j))) ∧ Hid (K5 B ((w.alloc (.cells #[.int .i64 6, .int .i64 n, .string s, .slice an ns.length cn, .slice ai is.length ci] 28))) wr)) (fun _ i _ => is.length - (intOf i).toNat)
    case atStart => exact ⟨0, by omega, rfl, by have := HV.out; simpa [jputL, jputM] using Lib.hid this, HK⟩
    case round =>
      clear HV HK r4
      obtain ⟨j, hj, rfl, HV, HK⟩ := hrel
      have hBr : B ≤ wr.heap.size := Nat.le_trans hB0 HK.out.size
      by_cases hlt : j < is.length
      · have hbx := HK.out.block HBX.out vt_ne
        obtain ⟨⟨k0, _, _, k3, _⟩, -⟩ := cellsOf5 hbx
        have hbl2 := (Array.getElem?_eq_some_iff.1 hbx).1
        rcases (HIT.out.kept (fun b _ hb => ⟨hb, HK.out.low hb⟩) : ItemsAt wr (fun b => b < B) ai is) with rfl | ⟨bI, oI, rfl, hoI, hall⟩
        · simp at hlt
        have hltN : j < ns.length := by omega
        have hpn := strs_take ns j hltN
        have hnv := HNV.out ns[j] (List.getElem_mem hltN)
        obtain ⟨bN, oN, hN1, hN2, hN3⟩ : ∃ bN oN, an = some ⟨bN, oN, none⟩ ∧ bN < B ∧ wr.cell? ⟨bN, oN + j, none⟩ = some (.string ns[j]) := by
          rcases (HST.out.kept (fun b _ hb => ⟨hb, HK.out.low hb⟩) : StrsAt wr (fun b => b < B) an ns) with rfl | ⟨b, o, h1, h2, h3⟩
          · exact absurd hltN (by simp)
          · exact ⟨b, o, h1, h2, h3 j _ (by simp [hltN])⟩
        subst hN1
        obtain ⟨cs, hrj, hlj⟩ := hall.at j hlt
        have hoj := okTs_at HOK.out j hlt
        have hwj := okWs_at HWV.out j hlt
        have hszj := HSZ.out is[j] (List.getElem_mem hlt)
        obtain ⟨xan, xcn, xai, xci, rfl⟩ := hrj.form
        obtain ⟨l0, l1, l2, l3, l4⟩ := lie5 hlj
        have hpl : (jputM true (ns.take j) (is.take j)).length ≤ 24 * strsBulk (ns.take j) + 24 * JV.bulks (is.take j) := jputM_len _ _ _ (okIs_take HOI.out j)
        have hbt := bulks_take is j hlt
        have HS := Lib.hid (show jputM true (ns.take (j + 1)) (is.take (j + 1)) = jputM true (ns.take j) (is.take j) ++ ((if (true && (is.take j).isEmpty) then [] else [44]) ++ (jq ns[j].data.toList ++ 58 :: jput is[j])) by rw [List.take_succ_eq_append_getElem hlt, List.take_succ_eq_append_getElem (show j < ns.length by omega), jputM_snoc _ _ _ _ _ (by simp; omega)])
        have hemp : (is.take j).isEmpty = decide (j = 0) := by
          cases is with
          | nil => simp at hlt
          | cons a r => cases j <;> simp
        rw [hemp] at HS
        have HLT := Lib.hid hlt
        clear hall hlj hemp
        generalize is[j] = x at *
        generalize ns[j] = nm at *
        generalize jputM true (ns.take j) (is.take j) = pt at *
        have hbc : Below wr.heap.size wr (wr.alloc (.cells #[.int .i64 x.kind, .int .i64 x.int, .string x.text, .slice xan x.names.length xcn, .slice xai x.items.length xci] 28)) := (Below.refl _ _).alloc (Nat.le_refl _) _
        have HXB := Lib.hid (heap_alloc_new wr (.cells #[.int .i64 x.kind, .int .i64 x.int, .string x.text, .slice xan x.names.length xcn, .slice xai x.items.length xci] 28))
        have hbc2 := (hbc.block w.heap.size hbl2).trans hbx
        have HBC := Lib.hid hbc2
        have hvc := buf_ext HV.out hbc
        have hBc : B ≤ ((wr.alloc (.cells #[.int .i64 x.kind, .int .i64 x.int, .string x.text, .slice xan x.names.length xcn, .slice xai x.items.length xci] 28))).heap.size := by simp only [World.size_alloc]; omega
        have HKC := Lib.hid (K5.of_below hbc hBr)
        have HRJ := Lib.hid (hrj.below hbc)
        obtain ⟨⟨q0, _, _, q3, _⟩, -⟩ := cellsOf5 hbc2
        obtain ⟨⟨x0, x1, x2, x3, x4⟩, -⟩ := cellsOf5 HXB.out
        have n1 : ((wr.alloc (.cells #[.int .i64 x.kind, .int .i64 x.int, .string x.text, .slice xan x.names.length xcn, .slice xai x.items.length xci] 28))).cell? ⟨bN, oN + j, none⟩ = some (.string nm) := cell_below hbc hN3
        clear hbx hbc hbc2 hrj k0 k3 hBr
        by_cases hj0 : j = 0
        · as_aux_lemma =>
          subst hj0
          simp only [Nat.zero_mul, Nat.add_zero] at l0 l1 l2 l3 l4 n1
          have HS2 := Lib.hid (show jputM true (ns.take (0 + 1)) (is.take (0 + 1)) = pt ++ (jq nm.data.toList ++ 58 :: jput x) from HS.out)
          clear HS
          have HVC := Lib.hid hvc
          have hqu := quoted_c nm hnv B u0 (l ++ 123 :: pt) ((wr.alloc (.cells #[.int .i64 x.kind, .int .i64 x.int, .string x.text, .slice xan x.names.length xcn, .slice xai x.items.length xci] 28))) HVC.out (by simp only [List.length_append, List.length_cons]; omega) hBc
          have hjq := jq_len nm.data.toList
          have hnm : nm.data.toList.length = nm.size := by simp
          go_wp2_with fail
          refine hqu.mono ?_; rintro e w6 ⟨v6, rfl, hv6, hk6⟩
          have HV6 := Lib.hid hv6
          have hB6 : B ≤ w6.heap.size := Nat.le_trans hBc hk6.size
          have HK6 := Lib.hid (HKC.out.trans hk6)
          have HXB6 := Lib.hid (hk6.block HXB.out vt_ne)
          have HRJ6 := Lib.hid (Rep.kept (fun b _ hb => ⟨hb, hk6.low hb⟩) _ _ HRJ.out)
          clear hqu hv6 hk6 x0 x1 x2 x3 x4 q0 q3 n1
          go_wp2_with (at_builtin; refine wpList_lit [58] rfl _ _ rfl B v6 _ rfl HV6.out rfl rfl (by simp only [List.length_append, List.length_cons, List.length_nil]; omega) hB6 ?_; intro v7 w7 hv7 hk7; have HV7 := Lib.hid hv7; have HK7 := Lib.hid (HK6.out.trans hk7); have hXB7 := hk7.block HXB6.out vt_ne; obtain ⟨⟨y0, y1, y2, y3, y4⟩, -⟩ := cellsOf5 hXB7; have HRJ7 := Lib.hid (Rep.kept (fun b _ hb => ⟨hb, hk7.low hb⟩) _ _ HRJ6.out); have hB7 : B ≤ w7.heap.size := Nat.le_trans hB6 hk7.size; clear hv7 hk7 hXB7)
          have hla := HIH.out x hszj hoj hwj _ w7 B v7 (l ++ 123 :: pt ++ jq nm.data.toList ++ [58]) HRJ7.out HV7.out hB7 (HTAB.out.on (HK.out.below.trans HK7.out.below)) (by simp only [List.length_append, List.length_cons, List.length_nil]; omega)
          go_wp2_with fail
          refine hla.mono ?_; rintro e w5 ⟨v5, rfl, hv5, hk5⟩
          have HV5 := Lib.hid hv5
          have HK5' := Lib.hid (HK.out.trans (HK7.out.trans hk5))
          clear hla hv5 hk5 y0 y1 y2 y3 y4
          go_wp2
          go_roundw
          case rel => exact ⟨0 + 1, HLT.out, by go_num, Lib.hid (by have h9 := HV5.out; rw [HS2.out]; simpa [List.append_assoc] using h9), HK5'⟩
          case measure => have := HLT.out; simp [intOf]; omega
        · as_aux_lemma =>
          have hj1 : (0 : Int) < (j : Int) := by omega
          have HS2 := Lib.hid (show jputM true (ns.take (j + 1)) (is.take (j + 1)) = pt ++ ([44] ++ (jq nm.data.toList ++ 58 :: jput x)) from by have h9 := HS.out; rw [show (true && decide (j = 0)) = false from by simp [hj0]] at h9; exact h9)
          clear HS hj0
          go_wp2_with (at_builtin; refine wpList_litA [44] rfl _ _ rfl B u0 (l ++ 123 :: pt) rfl _ hvc rfl rfl (by simp only [List.length_append, List.length_cons, List.length_nil]; omega) hBc ?_; intro v3 w3 hv3 hk3; have HV3 := Lib.hid hv3; have HK3 := Lib.hid (HKC.out.trans hk3); have hXB3 := hk3.block HXB.out vt_ne; have HXB3 := Lib.hid hXB3; have hBC3 := hk3.block HBC.out vt_ne; obtain ⟨⟨y0, y1, y2, y3, y4⟩, -⟩ := cellsOf5 hXB3; obtain ⟨⟨z0, _, _, z3, _⟩, -⟩ := cellsOf5 hBC3; have n2 : w3.cell? ⟨bN, oN + j, none⟩ = some (.string nm) := (World.cell?_of_block (w := ((wr.alloc (.cells #[.int .i64 x.kind, .int .i64 x.int, .string x.text, .slice xan x.names.length xcn, .slice xai x.items.length xci] 28)))) (hk3.low hN2)).trans n1; have HRJ3 := Lib.hid (Rep.kept (fun b _ hb => ⟨hb, hk3.low hb⟩) _ _ HRJ.out); have hB3 : B ≤ w3.heap.size := Nat.le_trans hBc hk3.size; clear hv3 hk3 hXB3 hBC3 x0 x1 x2 x3 x4 q0 q3 n1)
          have hqu := quoted_c nm hnv B v3 (l ++ 123 :: pt ++ [44]) w3 HV3.out (by simp only [List.length_append, List.length_cons, List.length_nil]; omega) hB3
          have hjq := jq_len nm.data.toList
          have hnm : nm.data.toList.length = nm.size := by simp
          go_wp2_with fail
          refine hqu.mono ?_; rintro e w6 ⟨v6, rfl, hv6, hk6⟩
          have HV6 := Lib.hid hv6
          have hB6 : B ≤ w6.heap.size := Nat.le_trans hB3 hk6.size
          have HK6 := Lib.hid (HK3.out.trans hk6)
          have HXB6 := Lib.hid (hk6.block HXB3.out vt_ne)
          have HRJ6 := Lib.hid (Rep.kept (fun b _ hb => ⟨hb, hk6.low hb⟩) _ _ HRJ3.out)
          clear hqu hv6 hk6 y0 y1 y2 y3 y4 z0 z3 n2
          go_wp2_with (at_builtin; refine wpList_lit [58] rfl _ _ rfl B v6 _ rfl HV6.out rfl rfl (by simp only [List.length_append, List.length_cons, List.length_nil]; omega) hB6 ?_; intro v7 w7 hv7 hk7; have HV7 := Lib.hid hv7; have HK7 := Lib.hid (HK6.out.trans hk7); have hXB7 := hk7.block HXB6.out vt_ne; obtain ⟨⟨y0, y1, y2, y3, y4⟩, -⟩ := cellsOf5 hXB7; have HRJ7 := Lib.hid (Rep.kept (fun b _ hb => ⟨hb, hk7.low hb⟩) _ _ HRJ6.out); have hB7 : B ≤ w7.heap.size := Nat.le_trans hB6 hk7.size; clear hv7 hk7 hXB7)
          have hla := HIH.out x hszj hoj hwj _ w7 B v7 (l ++ 123 :: pt ++ [44] ++ jq nm.data.toList ++ [58]) HRJ7.out HV7.out hB7 (HTAB.out.on (HK.out.below.trans HK7.out.below)) (by simp only [List.length_append, List.length_cons, List.length_nil]; omega)
          go_wp2_with fail
          refine hla.mono ?_; rintro e w5 ⟨v5, rfl, hv5, hk5⟩
          have HV5 := Lib.hid hv5
          have HK5' := Lib.hid (HK.out.trans (HK7.out.trans hk5))
          clear hla hv5 hk5 y0 y1 y2 y3 y4
          go_wp2
          go_roundw
          case rel => exact ⟨j + 1, HLT.out, by go_num, Lib.hid (by have h9 := HV5.out; rw [HS2.out]; simpa [List.append_assoc] using h9), HK5'⟩
          case measure => have := HLT.out; simp [intOf]; omega
      · obtain rfl : j = is.length := by omega
        have hte : jputM true (ns.take is.length) (is.take is.length) = jputM true ns is := by rw [List.take_length]; exact jputM_take true ns is hni
        have hvv := HV.out
        rw [hte] at hvv
        clear hte HV
        go_wp2_with (at_builtin; refine wpList_lit [125] rfl _ _ rfl B u0 _ rfl hvv rfl rfl (by simp only [List.length_append, List.length_cons, List.length_nil]; omega) hBr ?_; intro v3 w3 hv3 hk3; have HR3 := Lib.hid (And.intro hv3 (HK0.out.trans (HK.out.trans hk3))); clear hv3 hk3)
        go_ret
        exact ⟨_, rfl, by have h9 := HR3.out.1; rw [HE.out]; simpa [List.append_assoc] using h9, HR3.out.2⟩
  · have HE := Lib.hid (show jput (.mk k n s ns is) = 91 :: (jputL true is ++ [93]) by rw [jput, if_neg h0, if_neg h1, if_neg h2, if_neg h3, if_neg h4, if_neg h6])
    have b0 : (k == 0) = false := by simp [h0]
    have b1 : (k == 1) = false := by simp [h1]
    have b2 : (k == 2) = false := by simp [h2]
    have b3 : (k == 3) = false := by simp [h3]
    have b4 : (k == 4) = false := by simp [h4]
    have b6 : (k == 6) = false := by simp [h6]
    rw [HE.out] at hel
    have hbl : l.length + (jputL true is).length + 3 < 35184372088832 := by simp only [List.length_cons, List.length_append, List.length_nil] at hel; omega
    rw [JV.bulk] at hl
    have HIH := Lib.hid ih
    have HOK := Lib.hid hok.2
    have HWV := Lib.hid hwv.2.2
    have HOI := Lib.hid hoi.2
    have HTAB := Lib.hid (htab.on HK0.out.below)
    have HSZ := Lib.hid (show ∀ t ∈ is, t.size ≤ m from fun t ht => by have h1 := JV.size_le ht; rw [JV.size] at hm; omega)
    have HIT := Lib.hid (hit.below hb0)
    have HST := Lib.hid (hst.below hb0)
    have HBX := Lib.hid (heap_alloc_new w (.cells #[.int .i64 k, .int .i64 n, .string s, .slice an ns.length cn, .slice ai is.length ci] 28))
    unfold maxLen at hci hcn
    clear hok hst hit hv hwv hoi ih htab hb0
    go_enter Tryd.func49, Tryd.ntmps49
    go_wp2_with (at_builtin; refine wpList_litA [91] rfl _ _ rfl B v l rfl _ hv0 rfl rfl (by simp only [List.length_cons, List.length_nil]; omega) hB0 ?_; intro v2 w2 hv2 hk2; have HV := Lib.hid hv2; have HK := Lib.hid hk2; have r4 := (cellsOf5 (hk2.block HBX.out vt_ne)).1.2.2.2.2; clear hv2 hk2 hv0)
    go_loopw [0, 45] (fun b i wr => ∃ j : Nat, j ≤ is.length ∧ i = .int .i64 j ∧ Hid (Buf wr B 5 b (l ++ 91 :: jputL true (is.take j))) ∧ Hid (K5 B ((w.alloc (.cells #[.int .i64 k, .int .i64 n, .string s, .slice an ns.length cn, .slice ai is.length ci] 28))) wr)) (fun _ i _ => is.length - (intOf i).toNat)
    case atStart => exact ⟨0, by omega, rfl, by have := HV.out; simpa [jputL, jputM] using Lib.hid this, HK⟩
    case round =>
      clear HV HK r4
      obtain ⟨j, hj, rfl, HV, HK⟩ := hrel
      have hBr : B ≤ wr.heap.size := Nat.le_trans hB0 HK.out.size
      by_cases hlt : j < is.length
      · have hbx := HK.out.block HBX.out vt_ne
        obtain ⟨⟨k0, _, _, k3, _⟩, -⟩ := cellsOf5 hbx
        have hbl2 := (Array.getElem?_eq_some_iff.1 hbx).1
        rcases (HIT.out.kept (fun b _ hb => ⟨hb, HK.out.low hb⟩) : ItemsAt wr (fun b => b < B) ai is) with rfl | ⟨bI, oI, rfl, hoI, hall⟩
        · simp at hlt
        obtain ⟨cs, hrj, hlj⟩ := hall.at j hlt
        have hoj := okTs_at HOK.out j hlt
        have hwj := okWs_at HWV.out j hlt
        have hszj := HSZ.out is[j] (List.getElem_mem hlt)
        obtain ⟨xan, xcn, xai, xci, rfl⟩ := hrj.form
        obtain ⟨l0, l1, l2, l3, l4⟩ := lie5 hlj
        have hpl : (jputL true (is.take j)).length ≤ 24 * JV.bulks (is.take j) := jputL_len _ _ (okIs_take HOI.out j)
        have hbt := bulks_take is j hlt
        have HS := Lib.hid (show jputL true (is.take (j + 1)) = jputL true (is.take j) ++ ((if (true && (is.take j).isEmpty) then [] else [44]) ++ jput is[j]) by rw [List.take_succ_eq_append_getElem hlt, jputL_snoc])
        have hemp : (is.take j).isEmpty = decide (j = 0) := by
          cases is with
          | nil => simp at hlt
          | cons a r => cases j <;> simp
        rw [hemp] at HS
        have HLT := Lib.hid hlt
        clear hall hlj hemp
        generalize is[j] = x at *
        generalize jputL true (is.take j) = pt at *
        have hbc : Below wr.heap.size wr (wr.alloc (.cells #[.int .i64 x.kind, .int .i64 x.int, .string x.text, .slice xan x.names.length xcn, .slice xai x.items.length xci] 28)) := (Below.refl _ _).alloc (Nat.le_refl _) _
        have HXB := Lib.hid (heap_alloc_new wr (.cells #[.int .i64 x.kind, .int .i64 x.int, .string x.text, .slice xan x.names.length xcn, .slice xai x.items.length xci] 28))
        have hbc2 := (hbc.block w.heap.size hbl2).trans hbx
        have HBC := Lib.hid hbc2
        have hvc := buf_ext HV.out hbc
        have hBc : B ≤ ((wr.alloc (.cells #[.int .i64 x.kind, .int .i64 x.int, .string x.text, .slice xan x.names.length xcn, .slice xai x.items.length xci] 28))).heap.size := by simp only [World.size_alloc]; omega
        have HKC := Lib.hid (K5.of_below hbc hBr)
        have HRJ := Lib.hid (hrj.below hbc)
        obtain ⟨⟨q0, _, _, q3, _⟩, -⟩ := cellsOf5 hbc2
        obtain ⟨⟨x0, x1, x2, x3, x4⟩, -⟩ := cellsOf5 HXB.out
        clear hbx hbc hbc2 hrj k0 k3 hBr
        by_cases hj0 : j = 0
        · as_aux_lemma =>
          subst hj0
          simp only [Nat.zero_mul, Nat.add_zero] at l0 l1 l2 l3 l4
          have HS2 := Lib.hid (show jputL true (is.take (0 + 1)) = pt ++ jput x from HS.out)
          clear HS
          have HVC := Lib.hid hvc
          have hla := HIH.out x hszj hoj hwj _ ((wr.alloc (.cells #[.int .i64 x.kind, .int .i64 x.int, .string x.text, .slice xan x.names.length xcn, .slice xai x.items.length xci] 28))) B u0 (l ++ 91 :: pt) HRJ.out HVC.out hBc (HTAB.out.on (HK.out.below.trans HKC.out.below)) (by simp only [List.length_append, List.length_cons]; omega)
          go_wp2_with fail
          refine hla.mono ?_; rintro e w5 ⟨v5, rfl, hv5, hk5⟩
          have HV5 := Lib.hid hv5
          have HK5' := Lib.hid (HK.out.trans (HKC.out.trans hk5))
          clear hla hv5 hk5 x0 x1 x2 x3 x4 q0 q3
          go_wp2
          go_roundw
          case rel => exact ⟨0 + 1, HLT.out, by go_num, Lib.hid (by have h9 := HV5.out; rw [HS2.out]; simpa [List.append_assoc] using h9), HK5'⟩
          case measure => have := HLT.out; simp [intOf]; omega
        · as_aux_lemma =>
          have hj1 : (0 : Int) < (j : Int) := by omega
          have HS2 := Lib.hid (show jputL true (is.take (j + 1)) = pt ++ ([44] ++ jput x) from by have h9 := HS.out; rw [show (true && decide (j = 0)) = false from by simp [hj0]] at h9; exact h9)
          clear HS hj0
          go_wp2_with (at_builtin; refine wpList_litA [44] rfl _ _ rfl B u0 (l ++ 91 :: pt) rfl _ hvc rfl rfl (by simp only [List.length_append, List.length_cons, List.length_nil]; omega) hBc ?_; intro v3 w3 hv3 hk3; have HV3 := Lib.hid hv3; have HK3 := Lib.hid (HKC.out.trans hk3); have hXB3 := hk3.block HXB.out vt_ne; have HXB3 := Lib.hid hXB3; have hBC3 := hk3.block HBC.out vt_ne; obtain ⟨⟨y0, y1, y2, y3, y4⟩, -⟩ := cellsOf5 hXB3; obtain ⟨⟨z0, _, _, z3, _⟩, -⟩ := cellsOf5 hBC3; have HRJ3 := Lib.hid (Rep.kept (fun b _ hb => ⟨hb, hk3.low hb⟩) _ _ HRJ.out); have hB3 : B ≤ w3.heap.size := Nat.le_trans hBc hk3.size; clear hv3 hk3 hXB3 hBC3 x0 x1 x2 x3 x4 q0 q3)
          have hla := HIH.out x hszj hoj hwj _ w3 B v3 (l ++ 91 :: pt ++ [44]) HRJ3.out HV3.out hB3 (HTAB.out.on (HK.out.below.trans HK3.out.below)) (by simp only [List.length_append, List.length_cons, List.length_nil]; omega)
          go_wp2_with fail
          refine hla.mono ?_; rintro e w5 ⟨v5, rfl, hv5, hk5⟩
          have HV5 := Lib.hid hv5
          have HK5' := Lib.hid (HK.out.trans (HK3.out.trans hk5))
          clear hla hv5 hk5 y0 y1 y2 y3 y4 z0 z3
          go_wp2
          go_roundw
          case rel => exact ⟨j + 1, HLT.out, by go_num, Lib.hid (by have h9 := HV5.out; rw [HS2.out]; simpa [List.append_assoc] using h9), HK5'⟩
          case measure => have := HLT.out; simp [intOf]; omega
      · obtain rfl : j = is.length := by omega
        have hte : jputL true (is.take is.length) = jputL true is := by rw [List.take_length]
        have hvv := HV.out
        rw [hte] at hvv
        clear hte HV
        go_wp2_with (at_builtin; refine wpList_lit [93] rfl _ _ rfl B u0 _ rfl hvv rfl rfl (by simp only [List.length_append, List.length_cons, List.length_nil]; omega) hBr ?_; intro v3 w3 hv3 hk3; have HR3 := Lib.hid (And.intro hv3 (HK0.out.trans (HK.out.trans hk3))); clear hv3 hk3)
        go_ret
        exact ⟨_, rfl, by have h9 := HR3.out.1; rw [HE.out]; simpa [List.append_assoc] using h9, HR3.out.2⟩
theorem writ_all (m : Nat) : WritSaid m := by
  induction m with
  | zero => intro t hm; have := JV.size_pos t; omega
  | succ m ih => exact writ_step m ih
end Go.Proofs.YtbkbokfegjodnaaDoor
