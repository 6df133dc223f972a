/- The walk of the document's written. Conditions: each object has a name for each item; what a tree holds is at most 2 to the 40. -/
import Derived.Test.YtbkbokfegjodnaaDoorRquow
import Derived.Test.YtbkbokfegjodnaaDoorDigw
import Derived.Test.YtbkbokfegjodnaaDoorWritw
import Derived.Lib.SlBytesConst
namespace Go.Proofs.YtbkbokfegjodnaaDoor
open Go.RowKit
/-- a slice of these bytes -/
def BAt (w : World) (v : Value) (l : List UInt8) : Prop := ∃ g cap, v = .slice (some ⟨g, 0, none⟩) l.length cap ∧ ∀ j u, (l.map byteV)[j]? = some u → w.cell? ⟨g, j, none⟩ = some u
theorem BAt.below {w w' : World} {v : Value} {l : List UInt8} (h : BAt w v l) (hb : Below w.heap.size w w') : BAt w' v l := by
  obtain ⟨g, cap, e, hc⟩ := h
  exact ⟨g, cap, e, fun j u hj => cell_below hb (hc j u hj)⟩
theorem bat_of_buf {w : World} {B : Nat} {v : Value} {l : List UInt8} (h : Buf w B 5 v l) (hl : 0 < l.length) : BAt w v l := by
  obtain ⟨h1, ⟨rfl, h2⟩ | ⟨g, cap, cur, rfl, hg, hh, rest⟩⟩ := h
  · omega
  · refine ⟨g, cap, rfl, fun j u hj => ?_⟩
    have := World.ownsRow.cells (v := .slice (some ⟨g, 0, none⟩) l.length cap) (xs := l.map byteV) (n := l.length) (base := B) (e := 5) (size := 1) (w := w) ⟨h1, .inr ⟨g, cap, cur, rfl, hg, hh, rest⟩⟩ (g := g) rfl j u hj
    have e : (⟨g, 0, none⟩ : Addr).add j = ⟨g, j, none⟩ := by unfold Addr.add; split <;> simp_all
    rwa [e] at this
theorem conv_str (w : World) (l : List UInt8) : ∃ v w', (convert 9 63 (.string ⟨l.toArray⟩)).run Tryd.prog w = .ok v w' ∧ BAt w' v l ∧ Below w.heap.size w w' := by
  have h := run_bytes_of_string (P := Tryd.prog) w 9 63 5 ⟨l.toArray⟩ Tryd.underlying9 byTyK.slice byTyK.byte
  refine ⟨_, _, h, ⟨w.heap.size, _, by rw [str_len], fun j u hj => ?_⟩, ((Below.refl _ _).drew).alloc (Nat.le_refl _) _⟩
  have hsz : w.drew.heap.size = w.heap.size := rfl
  refine (World.cell?_alloc_mark w.drew _ _ _ _).trans ?_
  unfold bytesRow
  have hjl : j < l.length := by have := (List.getElem?_eq_some_iff.1 hj).1; simpa using this
  rw [Array.getElem?_append_left (by simpa using hjl)]
  simp [hjl, byteV] at hj ⊢
  exact hj
theorem conv_lit (w : World) (bs : List UInt8) : (convert 63 63 (.slice (some ⟨w.heap.size, 0, none⟩) bs.length bs.length)).run Tryd.prog (w.alloc (.cells (bs.map byteV).toArray 5)) = .ok (.slice (some ⟨w.heap.size, 0, none⟩) bs.length bs.length) (w.alloc (.cells (bs.map byteV).toArray 5 ((bs.map byteV).toArray.size, (bs.map byteV).toArray.size + 1))) ∧
    BAt (w.alloc (.cells (bs.map byteV).toArray 5 ((bs.map byteV).toArray.size, (bs.map byteV).toArray.size + 1))) (.slice (some ⟨w.heap.size, 0, none⟩) bs.length bs.length) bs := by
  refine ⟨Lib.run_convert_bytes_const (P := Tryd.prog) w 63 5 (bs.map byteV).toArray bs.length bs.length byTyK.slice byTyK.byte, w.heap.size, bs.length, rfl, fun j u hj => ?_⟩
  rw [World.cell?_alloc_mark]
  simpa using hj
/-- append of bytes that lie in a slice -/
theorem wpList_app5 {ops : Array Oper} {rest : List Oper} {o : Oper} {a : Act} {w : World} {Q : Exit → Act → World → Prop} (bs : List UInt8) (hgd : o.guard = none) (s x : Operand)
    (ho : o.op = .call { callee := .builtin .append, args := #[s, x], argTypes := #[63, 63] })
    (B : Nat) (v : Value) (l : List UInt8) (hs : a.eval s = v) (hown : Buf w B 5 v l) (y : Value) (hx : a.eval x = y) (hy : BAt w y bs) (hlen : l.length + bs.length ≤ 140737488355328) (hB : B ≤ w.heap.size)
    (h : ∀ v' w', Buf w' B 5 v' (l ++ bs) → K5 B w w' → wpList Tryd.prog ops Q rest (a.put o.dst v') w') : wpList Tryd.prog ops Q (o :: rest) a w := by
  obtain ⟨g, cap, rfl, hc⟩ := hy
  obtain ⟨i0, hi, hz0, hz1, hz2⟩ := info_parts byTyK.info
  refine wpList_append_own _ hgd s x _ ho B 5 i0 (.int .u8 0) 1 1 byTyK.slice hi hz0 hz1 hz2 rfl (by decide) v l.length (l.map byteV) hs hown ⟨g, 0, none⟩ bs.length cap (bs.map byteV) hx (by simp) (fun j u hj => ?_) ?_ ?_ ?_ hB ?_
  · have e : (⟨g, 0, none⟩ : Addr).add j = ⟨g, j, none⟩ := by unfold Addr.add; split <;> simp_all
    rw [e]; exact hc j u hj
  · intro u hu
    obtain ⟨c, _, rfl⟩ := List.mem_map.1 hu
    rfl
  · unfold maxLen; omega
  · omega
  · intro v' w' h2 h3 _
    refine h v' w' ?_ (K5.of_grown hown hB h3)
    unfold Buf
    rw [List.length_append, List.map_append]
    exact h2
theorem cell_below_at {w w' : World} (h : Below w.heap.size w w') {p : Addr} {v : Value} (hc : w.cell? p = some v) : w'.cell? p = some v := cell_below h hc
theorem Rep.below_at {w w' : World} {ok : Nat → Prop} {t : JV} {cs : List Value} (h : Rep w ok t cs) (hb : Below w.heap.size w w') : Rep w' ok t cs := h.below hb
def RWritSaid (m : Nat) : Prop := ∀ (t : JV), t.size ≤ m → okT t → ∀ (cs : List Value) (w : World) (ok : Nat → Prop), Rep w ok t cs → t.bulk ≤ 1099511627776 →
    Calls Tryd.prog 52 #[.agg cs.toArray] w fun e w' => ∃ v, e = .returned v ∧ BAt w' v (jput t) ∧ Below w.heap.size w w'
set_option maxRecDepth 20000 in
set_option maxHeartbeats 16000000 in
theorem rwrit_step (m : Nat) (ih : RWritSaid m) : RWritSaid (m + 1) := by
  intro t hm hok cs w ok hr hbk
  have hoi := rep_okI t cs hr
  have hel := jput_len t hoi
  cases t with
  | mk k n s ns is =>
  rw [rep_mk] at hr
  obtain ⟨hk, hn, hs, an, cn, ai, ci, rfl, hcn, hci, hst, hit⟩ := hr
  rw [okT] at hok
  rw [okI] at hoi
  have hb0 : Below w.heap.size w (w.alloc (.cells #[.int .i64 k, .int .i64 n, .string s, .slice an ns.length cn, .slice ai is.length ci] 28)) := (Below.refl _ _).alloc (Nat.le_refl _) _
  have HB0 := Lib.hid hb0
  obtain ⟨a0, a1, a2, a3, a4⟩ := cells5 w (.int .i64 k) (.int .i64 n) (.string s) (.slice an ns.length cn) (.slice ai is.length ci) 28
  have hss : s.size ≤ (JV.mk k n s ns is).bulk := by rw [JV.bulk]; omega
  rcases (show k = 0 ∨ k ≠ 0 by omega) with rfl | h0
  · have HE := Lib.hid (show jput (.mk 0 n s ns is) = [110, 117, 108, 108] by rw [jput]; simp)
    have kc : (convert 63 63 (.slice (some ⟨w.heap.size + 1, 0, none⟩) 4 4)).run Tryd.prog ((w.alloc (.cells #[.int .i64 0, .int .i64 n, .string s, .slice an ns.length cn, .slice ai is.length ci] 28)).alloc (.cells #[.int .u8 110, .int .u8 117, .int .u8 108, .int .u8 108] 5)) = .ok (.slice (some ⟨w.heap.size + 1, 0, none⟩) 4 4) ((w.alloc (.cells #[.int .i64 0, .int .i64 n, .string s, .slice an ns.length cn, .slice ai is.length ci] 28)).alloc (.cells #[.int .u8 110, .int .u8 117, .int .u8 108, .int .u8 108] 5 (4, 5))) := by
      have h := (conv_lit (w.alloc (.cells #[.int .i64 0, .int .i64 n, .string s, .slice an ns.length cn, .slice ai is.length ci] 28)) [110, 117, 108, 108]).1
      rw [World.size_alloc] at h
      exact h
    have HV := Lib.hid (show BAt ((w.alloc (.cells #[.int .i64 0, .int .i64 n, .string s, .slice an ns.length cn, .slice ai is.length ci] 28)).alloc (.cells #[.int .u8 110, .int .u8 117, .int .u8 108, .int .u8 108] 5 (4, 5))) (.slice (some ⟨w.heap.size + 1, 0, none⟩) 4 4) [110, 117, 108, 108] by
      have h := (conv_lit (w.alloc (.cells #[.int .i64 0, .int .i64 n, .string s, .slice an ns.length cn, .slice ai is.length ci] 28)) [110, 117, 108, 108]).2
      rw [World.size_alloc] at h
      exact h)
    clear hok hst hit hoi ih
    go_enter Tryd.func52, Tryd.ntmps52
    go_wp2
    go_ret
    exact ⟨_, rfl, by rw [HE.out]; exact HV.out, HB0.out.alloc HB0.out.size _⟩
  rcases (show k = 1 ∨ k ≠ 1 by omega) with rfl | h1
  · have HE := Lib.hid (show jput (.mk 1 n s ns is) = [102, 97, 108, 115, 101] by rw [jput]; simp)
    have kc : (convert 63 63 (.slice (some ⟨w.heap.size + 1, 0, none⟩) 5 5)).run Tryd.prog ((w.alloc (.cells #[.int .i64 1, .int .i64 n, .string s, .slice an ns.length cn, .slice ai is.length ci] 28)).alloc (.cells #[.int .u8 102, .int .u8 97, .int .u8 108, .int .u8 115, .int .u8 101] 5)) = .ok (.slice (some ⟨w.heap.size + 1, 0, none⟩) 5 5) ((w.alloc (.cells #[.int .i64 1, .int .i64 n, .string s, .slice an ns.length cn, .slice ai is.length ci] 28)).alloc (.cells #[.int .u8 102, .int .u8 97, .int .u8 108, .int .u8 115, .int .u8 101] 5 (5, 6))) := by
      have h := (conv_lit (w.alloc (.cells #[.int .i64 1, .int .i64 n, .string s, .slice an ns.length cn, .slice ai is.length ci] 28)) [102, 97, 108, 115, 101]).1
      rw [World.size_alloc] at h
      exact h
    have HV := Lib.hid (show BAt ((w.alloc (.cells #[.int .i64 1, .int .i64 n, .string s, .slice an ns.length cn, .slice ai is.length ci] 28)).alloc (.cells #[.int .u8 102, .int .u8 97, .int .u8 108, .int .u8 115, .int .u8 101] 5 (5, 6))) (.slice (some ⟨w.heap.size + 1, 0, none⟩) 5 5) [102, 97, 108, 115, 101] by
      have h := (conv_lit (w.alloc (.cells #[.int .i64 1, .int .i64 n, .string s, .slice an ns.length cn, .slice ai is.length ci] 28)) [102, 97, 108, 115, 101]).2
      rw [World.size_alloc] at h
      exact h)
    clear hok hst hit hoi ih
    go_enter Tryd.func52, Tryd.ntmps52
    go_wp2
    go_ret
    exact ⟨_, rfl, by rw [HE.out]; exact HV.out, HB0.out.alloc HB0.out.size _⟩
  rcases (show k = 2 ∨ k ≠ 2 by omega) with rfl | h2
  · have HE := Lib.hid (show jput (.mk 2 n s ns is) = [116, 114, 117, 101] by rw [jput]; simp)
    have kc : (convert 63 63 (.slice (some ⟨w.heap.size + 1, 0, none⟩) 4 4)).run Tryd.prog ((w.alloc (.cells #[.int .i64 2, .int .i64 n, .string s, .slice an ns.length cn, .slice ai is.length ci] 28)).alloc (.cells #[.int .u8 116, .int .u8 114, .int .u8 117, .int .u8 101] 5)) = .ok (.slice (some ⟨w.heap.size + 1, 0, none⟩) 4 4) ((w.alloc (.cells #[.int .i64 2, .int .i64 n, .string s, .slice an ns.length cn, .slice ai is.length ci] 28)).alloc (.cells #[.int .u8 116, .int .u8 114, .int .u8 117, .int .u8 101] 5 (4, 5))) := by
      have h := (conv_lit (w.alloc (.cells #[.int .i64 2, .int .i64 n, .string s, .slice an ns.length cn, .slice ai is.length ci] 28)) [116, 114, 117, 101]).1
      rw [World.size_alloc] at h
      exact h
    have HV := Lib.hid (show BAt ((w.alloc (.cells #[.int .i64 2, .int .i64 n, .string s, .slice an ns.length cn, .slice ai is.length ci] 28)).alloc (.cells #[.int .u8 116, .int .u8 114, .int .u8 117, .int .u8 101] 5 (4, 5))) (.slice (some ⟨w.heap.size + 1, 0, none⟩) 4 4) [116, 114, 117, 101] by
      have h := (conv_lit (w.alloc (.cells #[.int .i64 2, .int .i64 n, .string s, .slice an ns.length cn, .slice ai is.length ci] 28)) [116, 114, 117, 101]).2
      rw [World.size_alloc] at h
      exact h)
    clear hok hst hit hoi ih
    go_enter Tryd.func52, Tryd.ntmps52
    go_wp2
    go_ret
    exact ⟨_, rfl, by rw [HE.out]; exact HV.out, HB0.out.alloc HB0.out.size _⟩
  rcases (show k = 3 ∨ k ≠ 3 by omega) with rfl | h3
  · have HE := Lib.hid (show jput (.mk 3 n s ns is) = Lib.itoa n by rw [jput]; simp)
    have hdi := digits_c n hn (w.alloc (.cells #[.int .i64 3, .int .i64 n, .string s, .slice an ns.length cn, .slice ai is.length ci] 28))
    clear hok hst hit hoi ih
    go_enter Tryd.func52, Tryd.ntmps52
    go_wp2_with fail
    refine hdi.mono ?_; rintro e w1 ⟨rfl, hb1⟩
    obtain ⟨v, w2, kc, hv, hb2⟩ := conv_str w1 (Lib.itoa n)
    have HR := Lib.hid (And.intro hv (below_trans HB0.out (below_trans hb1 hb2)))
    clear hdi hv hb1 hb2
    go_wp2
    go_ret
    exact ⟨_, rfl, by rw [HE.out]; exact HR.out.1, HR.out.2⟩
  rcases (show k = 4 ∨ k ≠ 4 by omega) with rfl | h4
  · have HE := Lib.hid (show jput (.mk 4 n s ns is) = jq s.data.toList by rw [jput]; simp)
    have hdi := refQuoted_c s (by omega) (w.alloc (.cells #[.int .i64 4, .int .i64 n, .string s, .slice an ns.length cn, .slice ai is.length ci] 28))
    clear hok hst hit hoi ih
    go_enter Tryd.func52, Tryd.ntmps52
    go_wp2_with fail
    refine hdi.mono ?_; rintro e w1 ⟨rfl, hb1⟩
    obtain ⟨v, w2, kc, hv, hb2⟩ := conv_str w1 (jq s.data.toList)
    have HR := Lib.hid (And.intro hv (below_trans HB0.out (below_trans hb1 hb2)))
    clear hdi hv hb1 hb2
    go_wp2
    go_ret
    exact ⟨_, rfl, by rw [HE.out]; exact HR.out.1, HR.out.2⟩
  rcases (show k = 6 ∨ k ≠ 6 by omega) with rfl | h6
  · have HE := Lib.hid (show jput (.mk 6 n s ns is) = 123 :: (jputM true ns is ++ [125]) by rw [jput]; simp)
    have hni := hok.1 rfl
    rw [HE.out] at hel
    have hbl : (jputM true ns is).length + 3 < 35184372088832 := by simp only [List.length_cons, List.length_append, List.length_nil] at hel; omega
    rw [JV.bulk] at hbk
    have HIH := Lib.hid ih
    have HOK := Lib.hid hok.2
    have HOI := Lib.hid hoi.2
    have HSZ := Lib.hid (show ∀ t ∈ is, t.size ≤ m from fun t ht => by have h1 := JV.size_le ht; rw [JV.size] at hm; omega)
    have HIT := Lib.hid hit
    have HST := Lib.hid hst
    have hbL : Below (World.heap (w.alloc (.cells #[.int .i64 6, .int .i64 n, .string s, .slice an ns.length cn, .slice ai is.length ci] 28))).size (w.alloc (.cells #[.int .i64 6, .int .i64 n, .string s, .slice an ns.length cn, .slice ai is.length ci] 28)) (((w.alloc (.cells #[.int .i64 6, .int .i64 n, .string s, .slice an ns.length cn, .slice ai is.length ci] 28)).alloc (.cells #[.int .u8 91] 5)).alloc (.cells #[.int .u8 123] 5)) := ((Below.refl _ _).alloc (Nat.le_refl _) _).alloc (by simp) _
    have hb02 : Below w.heap.size w (((w.alloc (.cells #[.int .i64 6, .int .i64 n, .string s, .slice an ns.length cn, .slice ai is.length ci] 28)).alloc (.cells #[.int .u8 91] 5)).alloc (.cells #[.int .u8 123] 5)) := below_trans hb0 hbL
    have A0 := cell_below hbL a0
    have A3 := cell_below hbL a3
    have A4 := cell_below hbL a4
    have hv0 : Buf (((w.alloc (.cells #[.int .i64 6, .int .i64 n, .string s, .slice an ns.length cn, .slice ai is.length ci] 28)).alloc (.cells #[.int .u8 91] 5)).alloc (.cells #[.int .u8 123] 5)) w.heap.size 5 (.slice (some ⟨(World.heap ((w.alloc (.cells #[.int .i64 6, .int .i64 n, .string s, .slice an ns.length cn, .slice ai is.length ci] 28)).alloc (.cells #[.int .u8 91] 5))).size, 0, none⟩) 1 1) [123] := buf_lit (by simp; try omega) [123] (by decide)
    rw [show (World.heap ((w.alloc (.cells #[.int .i64 6, .int .i64 n, .string s, .slice an ns.length cn, .slice ai is.length ci] 28)).alloc (.cells #[.int .u8 91] 5))).size = w.heap.size + 2 by simp] at hv0
    have HV := Lib.hid hv0
    have HBX := Lib.hid ((hbL.block w.heap.size (by simp)).trans (heap_alloc_new w (.cells #[.int .i64 6, .int .i64 n, .string s, .slice an ns.length cn, .slice ai is.length ci] 28)))
    have HK := Lib.hid (K5.of_below (B := w.heap.size) hb02 (Nat.le_refl _))
    unfold maxLen at hci hcn
    clear hok hst hit hoi ih hb0 hbL hb02 hv0 a1 a2
    go_enter Tryd.func52, Tryd.ntmps52
    go_wp2
    go_loopg [3, 5] (is.length + 1) (fun gk b i wr => ∃ j : Nat, j ≤ is.length ∧ is.length - j < gk ∧ i = .int .i64 j ∧ Hid (Buf wr w.heap.size 5 b (123 :: jputM true (ns.take j) (is.take j))) ∧ Hid (K5 w.heap.size w wr) ∧ Hid (wr.heap[w.heap.size]? = some (.cells #[.int .i64 6, .int .i64 n, .string s, .slice an ns.length cn, .slice ai is.length ci] 28)))
    case atStart => exact ⟨0, by omega, by omega, rfl, by have := HV.out; simpa [jputL, jputM] using Lib.hid this, HK, HBX⟩
    case round =>
      clear HV HK HBX A0 A3 A4 a0 a3 a4
      obtain ⟨j, hj, hgk, rfl, HV, HK, HB⟩ := hrel
      have hB : w.heap.size ≤ wr.heap.size := HK.out.size
      obtain ⟨⟨k0, _, _, k3, k4⟩, -⟩ := cellsOf5 HB.out
      by_cases hlt : j < is.length
      · have hltN : j < ns.length := by omega
        have hpn := strs_take ns j hltN
        obtain ⟨bN, oN, rfl, hn1⟩ : ∃ bN oN, an = some ⟨bN, oN, none⟩ ∧ w.cell? ⟨bN, oN + j, none⟩ = some (.string ns[j]) := by
          rcases HST.out with rfl | ⟨b, o, h1, _, h3⟩
          · exact absurd hltN (by simp)
          · exact ⟨b, o, h1, h3 j _ (by simp [hltN])⟩
        obtain ⟨bI, oI, rfl, hall⟩ : ∃ bI oI, ai = some ⟨bI, oI, none⟩ ∧ RepAll w ok is bI oI := by
          rcases HIT.out with h | ⟨b, o, h1, _, h3⟩
          · rw [h] at hlt; simp at hlt
          · exact ⟨b, o, h1, h3⟩
        obtain ⟨cs, hrj, hlj⟩ := hall.at j hlt
        have hoj := okTs_at HOK.out j hlt
        have hszj := HSZ.out is[j] (List.getElem_mem hlt)
        have hbj : is[j].bulk ≤ 1099511627776 := by have h1 := JV.bulk_le (List.getElem_mem hlt); omega
        have hjl := jput_len is[j] (okIs_at HOI.out j hlt)
        obtain ⟨xan, xcn, xai, xci, rfl⟩ := hrj.form
        obtain ⟨l0, l1, l2, l3, l4⟩ := lie5 hlj
        have hpl : (jputM true (ns.take j) (is.take j)).length ≤ 24 * strsBulk (ns.take j) + 24 * JV.bulks (is.take j) := jputM_len _ _ _ (okIs_take HOI.out j)
        have hbt := bulks_take is j hlt
        have HS := Lib.hid (show jputM true (ns.take (j + 1)) (is.take (j + 1)) = jputM true (ns.take j) (is.take j) ++ ((if (true && (is.take j).isEmpty) then [] else [44]) ++ (jq ns[j].data.toList ++ 58 :: jput is[j])) by rw [List.take_succ_eq_append_getElem hlt, List.take_succ_eq_append_getElem (show j < ns.length by omega), jputM_snoc _ _ _ _ _ (by simp; omega)])
        have hemp : (is.take j).isEmpty = decide (j = 0) := by
          cases is with
          | nil => simp at hlt
          | cons a r => cases j <;> simp
        rw [hemp] at HS
        have HRJ := Lib.hid hrj
        clear hall hlj hemp hrj
        generalize is[j] = x at *
        generalize ns[j] = nm at *
        have hjq := jq_len nm.data.toList
        have hnm : nm.data.toList.length = nm.size := by simp
        have N1 := Lib.hid hn1
        generalize jputM true (ns.take j) (is.take j) = pt at *
        have C0 := Lib.hid l0
        have C1 := Lib.hid l1
        have C2 := Lib.hid l2
        have C3 := Lib.hid l3
        have C4 := Lib.hid l4
        clear l0 l1 l2 l3 l4 hn1
        by_cases hj0 : j = 0
        · subst hj0
          have HS2 := Lib.hid (show jputM true (ns.take (0 + 1)) (is.take (0 + 1)) = pt ++ (jq nm.data.toList ++ 58 :: jput x) from HS.out)
          clear HS
          have y_0 := cell_below_at HK.out.below N1.out
          simp only [Nat.add_zero] at y_0
          have hc := refQuoted_c nm (by omega) wr
          go_wp2_with fail
          refine hc.mono ?_; rintro e w1_ ⟨rfl, hb⟩
          have hk := K5.of_below hb hB
          have HV1 := Lib.hid (buf_ext HV.out hb)
          have HK1 := Lib.hid (HK.out.trans hk)
          have HB1 := Lib.hid (hk.block HB.out vt_ne)
          have hB1 : w.heap.size ≤ w1_.heap.size := Nat.le_trans hB hk.size
          obtain ⟨⟨z0_1, _, _, z3_1, z4_1⟩, -⟩ := cellsOf5 HB1.out
          clear hc hb hk k0 k3 k4 y_0
          go_wp2_with (first | (at_builtin; refine wpList_lit [58] rfl _ _ rfl w.heap.size _ (123 :: pt ++ jq nm.data.toList) rfl HV2.out rfl rfl (by simp only [List.length_append, List.length_cons, List.length_nil]; omega) hB2 ?_; intro v3 w3_ hv hk; have HV3 := Lib.hid hv; have HK3 := Lib.hid (HK2.out.trans hk); have HB3 := Lib.hid (hk.block HB2.out vt_ne); have hB3 : w.heap.size ≤ w3_.heap.size := Nat.le_trans hB2 hk.size; have x0_3 := cell_below_at HK3.out.below C0.out; have x1_3 := cell_below_at HK3.out.below C1.out; have x2_3 := cell_below_at HK3.out.below C2.out; have x3_3 := cell_below_at HK3.out.below C3.out; have x4_3 := cell_below_at HK3.out.below C4.out; simp only [Nat.zero_mul, Nat.add_zero] at x0_3 x1_3 x2_3 x3_3 x4_3; obtain ⟨⟨z0_3, _, _, z3_3, z4_3⟩, -⟩ := cellsOf5 HB3.out; clear hv hk z0_2 z3_2 z4_2) | (at_builtin; refine wpList_strK ⟨(jq nm.data.toList).toArray⟩ rfl _ _ rfl w.heap.size _ (123 :: pt) rfl HV1.out rfl (by rw [str_len]; simp only [List.length_cons]; omega) hB1 ?_; intro v2 w2_ hv hk; have HV2 := Lib.hid hv; have HK2 := Lib.hid (HK1.out.trans hk); have HB2 := Lib.hid (hk.block HB1.out vt_ne); have hB2 : w.heap.size ≤ w2_.heap.size := Nat.le_trans hB1 hk.size; obtain ⟨⟨z0_2, _, _, z3_2, z4_2⟩, -⟩ := cellsOf5 HB2.out; clear hv hk z0_1 z3_1 z4_1))
          have hc := HIH.out x hszj hoj _ w3_ ok (HRJ.out.below_at HK3.out.below) hbj
          go_wp2_with fail
          refine hc.mono ?_; rintro e w4_ ⟨y, rfl, hy, hb⟩
          have hk := K5.of_below hb hB3
          have HV4 := Lib.hid (buf_ext HV3.out hb)
          have HK4 := Lib.hid (HK3.out.trans hk)
          have HB4 := Lib.hid (hk.block HB3.out vt_ne)
          have hB4 : w.heap.size ≤ w4_.heap.size := Nat.le_trans hB3 hk.size
          have HY := Lib.hid hy
          clear hy
          clear hc hb hk z0_3 z3_3 z4_3 x0_3 x1_3 x2_3 x3_3 x4_3
          go_wp2_with (at_builtin; refine wpList_app5 (jput x) rfl _ _ rfl w.heap.size _ (123 :: pt ++ jq nm.data.toList ++ [58]) rfl HV4.out _ rfl HY.out (by simp only [List.length_append, List.length_cons, List.length_nil]; omega) hB4 ?_; intro v5 w5_ hv hk; have HV5 := Lib.hid hv; have HK5 := Lib.hid (HK4.out.trans hk); have HB5 := Lib.hid (hk.block HB4.out vt_ne); have hB5 : w.heap.size ≤ w5_.heap.size := Nat.le_trans hB4 hk.size; clear hv hk )
          go_roundg (gk - 1)
          all_goals first | omega | exact ⟨0 + 1, hlt, by omega, by go_num, Lib.hid (by have h9 := HV5.out; rw [HS2.out]; simpa [List.append_assoc] using h9), HK5, HB5⟩
        · have hj1 : (0 : Int) < (j : Int) := by omega
          have HS2 := Lib.hid (show jputM true (ns.take (j + 1)) (is.take (j + 1)) = pt ++ ([44] ++ (jq nm.data.toList ++ 58 :: jput x)) from by have h9 := HS.out; rw [show (true && decide (j = 0)) = false from by simp [hj0]] at h9; exact h9)
          clear HS hj0
          have y_0 := cell_below_at HK.out.below N1.out
          go_wp2_with (at_builtin; refine wpList_lit [44] rfl _ _ rfl w.heap.size _ (123 :: pt) rfl HV.out rfl rfl (by simp only [List.length_cons, List.length_nil]; omega) hB ?_; intro v1 w1_ hv hk; have HV1 := Lib.hid hv; have HK1 := Lib.hid (HK.out.trans hk); have HB1 := Lib.hid (hk.block HB.out vt_ne); have hB1 : w.heap.size ≤ w1_.heap.size := Nat.le_trans hB hk.size; have y_1 := cell_below_at HK1.out.below N1.out; obtain ⟨⟨z0_1, _, _, z3_1, z4_1⟩, -⟩ := cellsOf5 HB1.out; clear hv hk k0 k3 k4 y_0)
          have hc := refQuoted_c nm (by omega) w1_
          go_wp2_with fail
          refine hc.mono ?_; rintro e w2_ ⟨rfl, hb⟩
          have hk := K5.of_below hb hB1
          have HV2 := Lib.hid (buf_ext HV1.out hb)
          have HK2 := Lib.hid (HK1.out.trans hk)
          have HB2 := Lib.hid (hk.block HB1.out vt_ne)
          have hB2 : w.heap.size ≤ w2_.heap.size := Nat.le_trans hB1 hk.size
          obtain ⟨⟨z0_2, _, _, z3_2, z4_2⟩, -⟩ := cellsOf5 HB2.out
          clear hc hb hk z0_1 z3_1 z4_1 y_1
          go_wp2_with (first | (at_builtin; refine wpList_lit [58] rfl _ _ rfl w.heap.size _ (123 :: pt ++ [44] ++ jq nm.data.toList) rfl HV3.out rfl rfl (by simp only [List.length_append, List.length_cons, List.length_nil]; omega) hB3 ?_; intro v4 w4_ hv hk; have HV4 := Lib.hid hv; have HK4 := Lib.hid (HK3.out.trans hk); have HB4 := Lib.hid (hk.block HB3.out vt_ne); have hB4 : w.heap.size ≤ w4_.heap.size := Nat.le_trans hB3 hk.size; have x0_4 := cell_below_at HK4.out.below C0.out; have x1_4 := cell_below_at HK4.out.below C1.out; have x2_4 := cell_below_at HK4.out.below C2.out; have x3_4 := cell_below_at HK4.out.below C3.out; have x4_4 := cell_below_at HK4.out.below C4.out; obtain ⟨⟨z0_4, _, _, z3_4, z4_4⟩, -⟩ := cellsOf5 HB4.out; clear hv hk z0_3 z3_3 z4_3) | (at_builtin; refine wpList_strK ⟨(jq nm.data.toList).toArray⟩ rfl _ _ rfl w.heap.size _ (123 :: pt ++ [44]) rfl HV2.out rfl (by rw [str_len]; simp only [List.length_append, List.length_nil, List.length_cons]; omega) hB2 ?_; intro v3 w3_ hv hk; have HV3 := Lib.hid hv; have HK3 := Lib.hid (HK2.out.trans hk); have HB3 := Lib.hid (hk.block HB2.out vt_ne); have hB3 : w.heap.size ≤ w3_.heap.size := Nat.le_trans hB2 hk.size; obtain ⟨⟨z0_3, _, _, z3_3, z4_3⟩, -⟩ := cellsOf5 HB3.out; clear hv hk z0_2 z3_2 z4_2))
          have hc := HIH.out x hszj hoj _ w4_ ok (HRJ.out.below_at HK4.out.below) hbj
          go_wp2_with fail
          refine hc.mono ?_; rintro e w5_ ⟨y, rfl, hy, hb⟩
          have hk := K5.of_below hb hB4
          have HV5 := Lib.hid (buf_ext HV4.out hb)
          have HK5 := Lib.hid (HK4.out.trans hk)
          have HB5 := Lib.hid (hk.block HB4.out vt_ne)
          have hB5 : w.heap.size ≤ w5_.heap.size := Nat.le_trans hB4 hk.size
          have HY := Lib.hid hy
          clear hy
          clear hc hb hk z0_4 z3_4 z4_4 x0_4 x1_4 x2_4 x3_4 x4_4
          go_wp2_with (at_builtin; refine wpList_app5 (jput x) rfl _ _ rfl w.heap.size _ (123 :: pt ++ [44] ++ jq nm.data.toList ++ [58]) rfl HV5.out _ rfl HY.out (by simp only [List.length_append, List.length_cons, List.length_nil]; omega) hB5 ?_; intro v6 w6_ hv hk; have HV6 := Lib.hid hv; have HK6 := Lib.hid (HK5.out.trans hk); have HB6 := Lib.hid (hk.block HB5.out vt_ne); have hB6 : w.heap.size ≤ w6_.heap.size := Nat.le_trans hB5 hk.size; clear hv hk )
          go_roundg (gk - 1)
          all_goals first | omega | exact ⟨j + 1, hlt, by omega, by go_num, Lib.hid (by have h9 := HV6.out; rw [HS2.out]; simpa [List.append_assoc] using h9), HK6, HB6⟩
      · obtain rfl : j = is.length := by omega
        have hte : jputM true (ns.take is.length) (is.take is.length) = jputM true ns is := by rw [List.take_length]; exact jputM_take true ns is hni
        have hvv := HV.out
        rw [hte] at hvv
        clear hte HV
        go_wp2_with (at_builtin; refine wpList_lit [125] rfl _ _ rfl w.heap.size _ _ rfl hvv rfl rfl (by simp only [List.length_cons, List.length_nil]; omega) hB ?_; intro v3 w3 hv3 hk3; have HR3 := Lib.hid (And.intro hv3 (HK.out.trans hk3)); clear hv3 hk3)
        go_ret
        exact ⟨_, rfl, bat_of_buf (by have h9 := HR3.out.1; rw [HE.out]; simpa [List.append_assoc] using h9) (by rw [HE.out]; simp), HR3.out.2.below⟩
  · have HE := Lib.hid (show jput (.mk k n s ns is) = 91 :: (jputL true is ++ [93]) by rw [jput, if_neg h0, if_neg h1, if_neg h2, if_neg h3, if_neg h4, if_neg h6])
    have b0 : (k == 0) = false := by simp [h0]
    have b1 : (k == 1) = false := by simp [h1]
    have b2 : (k == 2) = false := by simp [h2]
    have b3 : (k == 3) = false := by simp [h3]
    have b4 : (k == 4) = false := by simp [h4]
    have b6 : (k == 6) = false := by simp [h6]
    rw [HE.out] at hel
    have hbl : (jputL true is).length + 3 < 35184372088832 := by simp only [List.length_cons, List.length_append, List.length_nil] at hel; omega
    rw [JV.bulk] at hbk
    have HIH := Lib.hid ih
    have HOK := Lib.hid hok.2
    have HOI := Lib.hid hoi.2
    have HSZ := Lib.hid (show ∀ t ∈ is, t.size ≤ m from fun t ht => by have h1 := JV.size_le ht; rw [JV.size] at hm; omega)
    have HIT := Lib.hid hit
    have HST := Lib.hid hst
    have hbL : Below (World.heap (w.alloc (.cells #[.int .i64 k, .int .i64 n, .string s, .slice an ns.length cn, .slice ai is.length ci] 28))).size (w.alloc (.cells #[.int .i64 k, .int .i64 n, .string s, .slice an ns.length cn, .slice ai is.length ci] 28)) ((w.alloc (.cells #[.int .i64 k, .int .i64 n, .string s, .slice an ns.length cn, .slice ai is.length ci] 28)).alloc (.cells #[.int .u8 91] 5)) := (Below.refl _ _).alloc (Nat.le_refl _) _
    have hb02 : Below w.heap.size w ((w.alloc (.cells #[.int .i64 k, .int .i64 n, .string s, .slice an ns.length cn, .slice ai is.length ci] 28)).alloc (.cells #[.int .u8 91] 5)) := below_trans hb0 hbL
    have A0 := cell_below hbL a0
    have A3 := cell_below hbL a3
    have A4 := cell_below hbL a4
    have hv0 : Buf ((w.alloc (.cells #[.int .i64 k, .int .i64 n, .string s, .slice an ns.length cn, .slice ai is.length ci] 28)).alloc (.cells #[.int .u8 91] 5)) w.heap.size 5 (.slice (some ⟨(World.heap (w.alloc (.cells #[.int .i64 k, .int .i64 n, .string s, .slice an ns.length cn, .slice ai is.length ci] 28))).size, 0, none⟩) 1 1) [91] := buf_lit (by simp; try omega) [91] (by decide)
    rw [show (World.heap (w.alloc (.cells #[.int .i64 k, .int .i64 n, .string s, .slice an ns.length cn, .slice ai is.length ci] 28))).size = w.heap.size + 1 by simp] at hv0
    have HV := Lib.hid hv0
    have HBX := Lib.hid ((hbL.block w.heap.size (by simp)).trans (heap_alloc_new w (.cells #[.int .i64 k, .int .i64 n, .string s, .slice an ns.length cn, .slice ai is.length ci] 28)))
    have HK := Lib.hid (K5.of_below (B := w.heap.size) hb02 (Nat.le_refl _))
    unfold maxLen at hci hcn
    clear hok hst hit hoi ih hb0 hbL hb02 hv0 a1 a2
    go_enter Tryd.func52, Tryd.ntmps52
    go_wp2
    go_loopg [3, 5] (is.length + 1) (fun gk b i wr => ∃ j : Nat, j ≤ is.length ∧ is.length - j < gk ∧ i = .int .i64 j ∧ Hid (Buf wr w.heap.size 5 b (91 :: jputL true (is.take j))) ∧ Hid (K5 w.heap.size w wr) ∧ Hid (wr.heap[w.heap.size]? = some (.cells #[.int .i64 k, .int .i64 n, .string s, .slice an ns.length cn, .slice ai is.length ci] 28)))
    case atStart => exact ⟨0, by omega, by omega, rfl, by have := HV.out; simpa [jputL, jputM] using Lib.hid this, HK, HBX⟩
    case round =>
      clear HV HK HBX A0 A3 A4 a0 a3 a4
      obtain ⟨j, hj, hgk, rfl, HV, HK, HB⟩ := hrel
      have hB : w.heap.size ≤ wr.heap.size := HK.out.size
      obtain ⟨⟨k0, _, _, k3, k4⟩, -⟩ := cellsOf5 HB.out
      by_cases hlt : j < is.length
      · skip
        obtain ⟨bI, oI, rfl, hall⟩ : ∃ bI oI, ai = some ⟨bI, oI, none⟩ ∧ RepAll w ok is bI oI := by
          rcases HIT.out with h | ⟨b, o, h1, _, h3⟩
          · rw [h] at hlt; simp at hlt
          · exact ⟨b, o, h1, h3⟩
        obtain ⟨cs, hrj, hlj⟩ := hall.at j hlt
        have hoj := okTs_at HOK.out j hlt
        have hszj := HSZ.out is[j] (List.getElem_mem hlt)
        have hbj : is[j].bulk ≤ 1099511627776 := by have h1 := JV.bulk_le (List.getElem_mem hlt); omega
        have hjl := jput_len is[j] (okIs_at HOI.out j hlt)
        obtain ⟨xan, xcn, xai, xci, rfl⟩ := hrj.form
        obtain ⟨l0, l1, l2, l3, l4⟩ := lie5 hlj
        have hpl : (jputL true (is.take j)).length ≤ 24 * JV.bulks (is.take j) := jputL_len _ _ (okIs_take HOI.out j)
        have hbt := bulks_take is j hlt
        have HS := Lib.hid (show jputL true (is.take (j + 1)) = jputL true (is.take j) ++ ((if (true && (is.take j).isEmpty) then [] else [44]) ++ jput is[j]) by rw [List.take_succ_eq_append_getElem hlt, jputL_snoc])
        have hemp : (is.take j).isEmpty = decide (j = 0) := by
          cases is with
          | nil => simp at hlt
          | cons a r => cases j <;> simp
        rw [hemp] at HS
        have HRJ := Lib.hid hrj
        clear hall hlj hemp hrj
        generalize is[j] = x at *
        generalize jputL true (is.take j) = pt at *
        have C0 := Lib.hid l0
        have C1 := Lib.hid l1
        have C2 := Lib.hid l2
        have C3 := Lib.hid l3
        have C4 := Lib.hid l4
        clear l0 l1 l2 l3 l4
        by_cases hj0 : j = 0
        · subst hj0
          have HS2 := Lib.hid (show jputL true (is.take (0 + 1)) = pt ++ jput x from HS.out)
          clear HS
          have x0_0 := cell_below_at HK.out.below C0.out
          have x1_0 := cell_below_at HK.out.below C1.out
          have x2_0 := cell_below_at HK.out.below C2.out
          have x3_0 := cell_below_at HK.out.below C3.out
          have x4_0 := cell_below_at HK.out.below C4.out
          simp only [Nat.zero_mul, Nat.add_zero] at x0_0 x1_0 x2_0 x3_0 x4_0
          have hc := HIH.out x hszj hoj _ wr ok (HRJ.out.below_at HK.out.below) hbj
          go_wp2_with fail
          refine hc.mono ?_; rintro e w1_ ⟨y, rfl, hy, hb⟩
          have hk := K5.of_below hb hB
          have HV1 := Lib.hid (buf_ext HV.out hb)
          have HK1 := Lib.hid (HK.out.trans hk)
          have HB1 := Lib.hid (hk.block HB.out vt_ne)
          have hB1 : w.heap.size ≤ w1_.heap.size := Nat.le_trans hB hk.size
          have HY := Lib.hid hy
          clear hy
          clear hc hb hk k0 k3 k4 x0_0 x1_0 x2_0 x3_0 x4_0
          go_wp2_with (at_builtin; refine wpList_app5 (jput x) rfl _ _ rfl w.heap.size _ (91 :: pt) rfl HV1.out _ rfl HY.out (by simp only [List.length_cons]; omega) hB1 ?_; intro v2 w2_ hv hk; have HV2 := Lib.hid hv; have HK2 := Lib.hid (HK1.out.trans hk); have HB2 := Lib.hid (hk.block HB1.out vt_ne); have hB2 : w.heap.size ≤ w2_.heap.size := Nat.le_trans hB1 hk.size; clear hv hk )
          go_roundg (gk - 1)
          all_goals first | omega | exact ⟨0 + 1, hlt, by omega, by go_num, Lib.hid (by have h9 := HV2.out; rw [HS2.out]; simpa [List.append_assoc] using h9), HK2, HB2⟩
        · have hj1 : (0 : Int) < (j : Int) := by omega
          have HS2 := Lib.hid (show jputL true (is.take (j + 1)) = pt ++ ([44] ++ jput x) from by have h9 := HS.out; rw [show (true && decide (j = 0)) = false from by simp [hj0]] at h9; exact h9)
          clear HS hj0
          have x0_0 := cell_below_at HK.out.below C0.out
          have x1_0 := cell_below_at HK.out.below C1.out
          have x2_0 := cell_below_at HK.out.below C2.out
          have x3_0 := cell_below_at HK.out.below C3.out
          have x4_0 := cell_below_at HK.out.below C4.out
          go_wp2_with (at_builtin; refine wpList_lit [44] rfl _ _ rfl w.heap.size _ (91 :: pt) rfl HV.out rfl rfl (by simp only [List.length_cons, List.length_nil]; omega) hB ?_; intro v1 w1_ hv hk; have HV1 := Lib.hid hv; have HK1 := Lib.hid (HK.out.trans hk); have HB1 := Lib.hid (hk.block HB.out vt_ne); have hB1 : w.heap.size ≤ w1_.heap.size := Nat.le_trans hB hk.size; have x0_1 := cell_below_at HK1.out.below C0.out; have x1_1 := cell_below_at HK1.out.below C1.out; have x2_1 := cell_below_at HK1.out.below C2.out; have x3_1 := cell_below_at HK1.out.below C3.out; have x4_1 := cell_below_at HK1.out.below C4.out; obtain ⟨⟨z0_1, _, _, z3_1, z4_1⟩, -⟩ := cellsOf5 HB1.out; clear hv hk k0 k3 k4 x0_0 x1_0 x2_0 x3_0 x4_0)
          have hc := HIH.out x hszj hoj _ w1_ ok (HRJ.out.below_at HK1.out.below) hbj
          go_wp2_with fail
          refine hc.mono ?_; rintro e w2_ ⟨y, rfl, hy, hb⟩
          have hk := K5.of_below hb hB1
          have HV2 := Lib.hid (buf_ext HV1.out hb)
          have HK2 := Lib.hid (HK1.out.trans hk)
          have HB2 := Lib.hid (hk.block HB1.out vt_ne)
          have hB2 : w.heap.size ≤ w2_.heap.size := Nat.le_trans hB1 hk.size
          have HY := Lib.hid hy
          clear hy
          clear hc hb hk z0_1 z3_1 z4_1 x0_1 x1_1 x2_1 x3_1 x4_1
          go_wp2_with (at_builtin; refine wpList_app5 (jput x) rfl _ _ rfl w.heap.size _ (91 :: pt ++ [44]) rfl HV2.out _ rfl HY.out (by simp only [List.length_append, List.length_cons, List.length_nil]; omega) hB2 ?_; intro v3 w3_ hv hk; have HV3 := Lib.hid hv; have HK3 := Lib.hid (HK2.out.trans hk); have HB3 := Lib.hid (hk.block HB2.out vt_ne); have hB3 : w.heap.size ≤ w3_.heap.size := Nat.le_trans hB2 hk.size; clear hv hk )
          go_roundg (gk - 1)
          all_goals first | omega | exact ⟨j + 1, hlt, by omega, by go_num, Lib.hid (by have h9 := HV3.out; rw [HS2.out]; simpa [List.append_assoc] using h9), HK3, HB3⟩
      · obtain rfl : j = is.length := by omega
        have hte : jputL true (is.take is.length) = jputL true is := by rw [List.take_length]
        have hvv := HV.out
        rw [hte] at hvv
        clear hte HV
        go_wp2_with (at_builtin; refine wpList_lit [93] rfl _ _ rfl w.heap.size _ _ rfl hvv rfl rfl (by simp only [List.length_cons, List.length_nil]; omega) hB ?_; intro v3 w3 hv3 hk3; have HR3 := Lib.hid (And.intro hv3 (HK.out.trans hk3)); clear hv3 hk3)
        go_ret
        exact ⟨_, rfl, bat_of_buf (by have h9 := HR3.out.1; rw [HE.out]; simpa [List.append_assoc] using h9) (by rw [HE.out]; simp), HR3.out.2.below⟩
theorem rwrit_all (m : Nat) : RWritSaid m := by
  induction m with
  | zero => intro t hm; have := JV.size_pos t; omega
  | succ m ih => exact rwrit_step m ih
end Go.Proofs.YtbkbokfegjodnaaDoor
