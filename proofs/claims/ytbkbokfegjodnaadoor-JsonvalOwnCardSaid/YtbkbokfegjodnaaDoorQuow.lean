/- The walk of quoted. Conditions: the text is characters; what is there and what comes in has less than 2 to the 46 bytes. -/
import Derived.Test.YtbkbokfegjodnaaDoorPrinta
import Derived.Deep.LoopGhost
namespace Go.Proofs.YtbkbokfegjodnaaDoor
open Go.RowKit
theorem num_eq {r d : Nat} (h : r = d) : ((r : Int) == (d : Int)) = true := by rw [h, beq_self_eq_true]
theorem num_ne {r d : Nat} (h : r ≠ d) : ((r : Int) == (d : Int)) = false := by
  rw [beq_eq_false_iff_ne]; intro e; exact h (Int.ofNat_inj.1 e)
theorem buf_iter {w : World} {B : Nat} {v : Value} {l : List UInt8} (h : Buf w B 5 v l) {k : Nat} {s : ByteArray} {p : Nat} (hk : w.heap[k]? = some (.stringIter s p)) (q : Nat) : Buf (w.iterAt k s q) B 5 v l := by
  refine ⟨h.1, ?_⟩
  rcases h.2 with e | ⟨g, cap, cur, rfl, hb, hg, rest⟩
  · exact .inl e
  · refine .inr ⟨g, cap, cur, rfl, hb, ?_, rest⟩
    rw [Lib.iterAt_other _ _ _ _ _ (fun e => by subst e; rw [hk] at hg; cases hg)]
    exact hg
theorem K5.iter {B : Nat} {a w : World} (h : K5 B a w) {k : Nat} (hk : a.heap.size ≤ k) (hB : B ≤ a.heap.size) (s : ByteArray) (q : Nat) : K5 B a (w.iterAt k s q) :=
  ⟨Lib.below_iterAt h.below (Nat.le_trans hB hk) s q, fun j o hj h1 h2 => by
    have hlt : j < a.heap.size := (Array.getElem?_eq_some_iff.1 hj).1
    rw [Lib.iterAt_other _ _ _ _ _ (by omega)]
    exact h.kept j o hj h1 h2⟩
theorem K5.itkept {B : Nat} {w w' : World} (h : K5 B w w') {k : Nat} {s : ByteArray} {p : Nat} (hk : w.heap[k]? = some (.stringIter s p)) : w'.heap[k]? = some (.stringIter s p) :=
  h.kept k _ hk (by simp) (fun c f e => by cases e)
theorem jqR_enc {r : Nat} (h1 : 32 ≤ r) (h2 : r ≠ 34) (h3 : r ≠ 92) : jqR r = Lib.encodeRune r := by
  unfold jqR
  split
  · rename_i h
    have hu : (UInt8.ofNat r).toNat = r := by rw [UInt8.toNat_ofNat']; omega
    have ne : ∀ d : UInt8, d.toNat ≠ r → UInt8.ofNat r ≠ d := fun d hd e => hd (by rw [← e, hu])
    unfold jqc
    rw [if_neg (fun h => h.elim (ne 34 (fun e => h2 e.symm)) (ne 92 (fun e => h3 e.symm))), if_neg (ne 8 (by show 8 ≠ r; omega)), if_neg (ne 9 (by show 9 ≠ r; omega)), if_neg (ne 10 (by show 10 ≠ r; omega)), if_neg (ne 12 (by show 12 ≠ r; omega)), if_neg (ne 13 (by show 13 ≠ r; omega)), if_neg (by rw [hu]; omega)]
    unfold Lib.encodeRune
    rw [Lib.encodeRuneZ_one (by omega) (by omega)]
    simp only [List.map_cons, List.map_nil]
    rfl
  · rfl
theorem jqR_ctl {r : Nat} (h : r < 32) (h8 : r ≠ 8) (h9 : r ≠ 9) (h10 : r ≠ 10) (h12 : r ≠ 12) (h13 : r ≠ 13) : jqR r = [92, 117, 48, 48, hexd (r / 16), hexd (r % 16)] := by
  have hu : (UInt8.ofNat r).toNat = r := by rw [UInt8.toNat_ofNat']; omega
  have ne : ∀ d : UInt8, d.toNat ≠ r → UInt8.ofNat r ≠ d := fun d hd e => hd (by rw [← e, hu])
  unfold jqR
  rw [if_pos (by omega)]
  unfold jqc
  rw [if_neg (fun h => h.elim (ne 34 (by show 34 ≠ r; omega)) (ne 92 (by show 92 ≠ r; omega))), if_neg (ne 8 (by show 8 ≠ r; omega)), if_neg (ne 9 (by show 9 ≠ r; omega)), if_neg (ne 10 (by show 10 ≠ r; omega)), if_neg (ne 12 (by show 12 ≠ r; omega)), if_neg (ne 13 (by show 13 ≠ r; omega)), if_pos (by rw [hu]; omega), hu]
theorem hexIx (w : World) (d : Nat) (h : d < 16) : (Instr.index 9 (.string ⟨#[48, 49, 50, 51, 52, 53, 54, 55, 56, 57, 97, 98, 99, 100, 101, 102]⟩) (.int .i32 (d : Int))).run Tryd.prog w = .ok (.int .u8 ((hexd d).toNat : Int)) w := by
  rcases (show d = 0 ∨ d = 1 ∨ d = 2 ∨ d = 3 ∨ d = 4 ∨ d = 5 ∨ d = 6 ∨ d = 7 ∨ d = 8 ∨ d = 9 ∨ d = 10 ∨ d = 11 ∨ d = 12 ∨ d = 13 ∨ d = 14 ∨ d = 15 by omega) with rfl | rfl | rfl | rfl | rfl | rfl | rfl | rfl | rfl | rfl | rfl | rfl | rfl | rfl | rfl | rfl
  all_goals kernel_rfl
theorem hexIx1 (r : Nat) (h : r < 32) (w : World) : (Instr.index 9 (.string ⟨#[48, 49, 50, 51, 52, 53, 54, 55, 56, 57, 97, 98, 99, 100, 101, 102]⟩) (.int .i32 ((r : Int) / 16))).run Tryd.prog w = .ok (.int .u8 ((hexd (r / 16)).toNat : Int)) w := by
  have e : (r : Int) / 16 = ((r / 16 : Nat) : Int) := by omega
  rw [e]; exact hexIx w _ (by omega)
theorem and15 : ∀ e : Fin 32, bits BinOp.and IntKind.i32 ((e.1 : Nat) : Int) 15 = ((e.1 % 16 : Nat) : Int) := by decide +kernel
theorem hexIx2 (r : Nat) (h : r < 32) (w : World) : (Instr.index 9 (.string ⟨#[48, 49, 50, 51, 52, 53, 54, 55, 56, 57, 97, 98, 99, 100, 101, 102]⟩) (.int .i32 (bits BinOp.and IntKind.i32 (r : Int) 15))).run Tryd.prog w = .ok (.int .u8 ((hexd (r % 16)).toNat : Int)) w := by
  rw [and15 ⟨r, h⟩]; exact hexIx w _ (by omega)
/-- append of bytes that stand in the text, at a step of a region that draws -/
theorem step_lit {ops : Array Oper} {o : Oper} {a : Act} {w0 w : World} {K : Act → World → Prop} {Q : Exit → Act → World → Prop} {F : Prop} (bs : List UInt8) (hgd : o.guard = none) (s x : Operand)
    (ho : o.op = .call { callee := .builtin .append, args := #[s, x], argTypes := #[63, 63] })
    (B : Nat) (v : Value) (l : List UInt8) (hs : a.eval s = v) (hown : Buf w0 B 5 v l) (hw : w = w0.alloc (.cells (bs.map byteV).toArray 5))
    (hx : a.eval x = .slice (some ⟨w0.heap.size, 0, none⟩) bs.length bs.length) (hlen : l.length + bs.length ≤ 140737488355328) (hB : B ≤ w0.heap.size)
    (h : ∀ v' w', Buf w' B 5 v' (l ++ bs) → K5 B w0 w' → K (a.put o.dst v') w') : if Region.wanted o (yielded ops a.tmps) = true then Oper.wp Tryd.prog o a w K Q else F := by
  have hwn : Region.wanted o (yielded ops a.tmps) = true := by simp [Region.wanted, hgd]
  rw [if_pos hwn]
  subst hw
  have hb : Below w0.heap.size w0 (w0.alloc (.cells (bs.map byteV).toArray 5)) := (Below.refl _ _).alloc (Nat.le_refl _) _
  have hown2 := buf_ext hown hb
  have hB2 : B ≤ (w0.alloc (.cells (bs.map byteV).toArray 5)).heap.size := by simp only [World.size_alloc]; omega
  obtain ⟨i0, hi, hz0, hz1, hz2⟩ := info_parts byTyK.info
  obtain ⟨v', w', hr, h2, h3, _⟩ := run_append_own (P := Tryd.prog) _ B 63 o.type 5 i0 (.int .u8 0) 1 1 byTyK.slice hi hz0 hz1 hz2 rfl (by decide) v l.length (l.map byteV) hown2 ⟨w0.heap.size, 0, none⟩ bs.length bs.length (bs.map byteV) (by simp) (lit_cells w0 bs) (fun u hu => by obtain ⟨c, _, rfl⟩ := List.mem_map.1 hu; rfl) (by unfold maxLen; omega) (by omega) hB2
  unfold Oper.wp execOp
  simp only [ho, resolve, invoke, builtin, Sem.run_bind, Sem.run_pure, Result.andThen_ok, List.map_toArray, List.map_cons, List.map_nil, hs, hx, hr]
  refine h v' w' ?_ ((K5.of_below hb hB).trans (K5.of_grown hown2 hB2 h3))
  unfold Buf
  rw [List.length_append, List.map_append]
  exact h2
theorem jqR_len (r : Nat) : (jqR r).length ≤ 6 := by
  unfold jqR
  split
  · exact jqc_len _
  · unfold Lib.encodeRune Lib.encodeRuneZ
    rw [List.length_map]
    repeat' split
    all_goals simp
set_option maxRecDepth 20000 in
set_option maxHeartbeats 8000000 in
theorem quoted_c (s : ByteArray) (hv : Lib.validD s.data.toList = true) (B : Nat) (v : Value) (l : List UInt8) (w : World) (hown : Buf w B 5 v l) (hlen : l.length + 6 * s.size + 12 ≤ 140737488355328) (hB : B ≤ w.heap.size) :
    Calls Tryd.prog 74 #[v, .string s] w fun e w' => ∃ v', e = .returned v' ∧ Buf w' B 5 v' (l ++ jq s.data.toList) ∧ K5 B w w' := by
  have HV := Lib.hid hv
  clear hv
  go_enter Tryd.func74, Tryd.ntmps74
  go_wp2_with (at_builtin; refine wpList_lit [34] rfl _ _ rfl B v l rfl hown rfl rfl (by simp only [List.length_cons, List.length_nil]; omega) hB ?_; intro v1 w1 hv1 hk1; have HV1 := Lib.hid hv1; have HK1 := Lib.hid hk1; clear hv1 hk1)
  have hb1 : Below w1.heap.size w1 (w1.iter s 0) := (Below.refl _ _).alloc (Nat.le_refl _) _
  have hB1 : B ≤ w1.heap.size := Nat.le_trans hB HK1.out.size
  have hw1 : w.heap.size ≤ w1.heap.size := HK1.out.size
  have START := Lib.hid (show Buf (w1.iter s 0) B 5 v1 (l ++ [34]) ∧ K5 B w (w1.iter s 0) ∧ (w1.iter s 0).heap[w1.heap.size]? = some (.stringIter s 0) from ⟨buf_ext HV1.out hb1, HK1.out.trans (K5.of_below hb1 hB1), World.iter_heap w1 s 0⟩)
  clear hb1 HK1 HV1
  go_loopg [0] (s.size + 1) (fun gk b wr => ∃ (p : Nat) (acc : List UInt8), p ≤ s.size ∧ s.size - p < gk ∧ acc.length + 6 * (s.size - p) ≤ l.length + 1 + 6 * s.size ∧ Hid (Buf wr B 5 b acc) ∧ Hid (acc ++ jqs (s.data.toList.drop p) = l ++ 34 :: jqs s.data.toList) ∧ Hid (Lib.validD (s.data.toList.drop p) = true) ∧ Hid (wr.heap[w1.heap.size]? = some (.stringIter s p)) ∧ Hid (K5 B w wr))
  case atStart => exact ⟨0, l ++ [34], Nat.zero_le _, by omega, by rw [List.length_append]; simp, Lib.hid START.out.1, Lib.hid (by rw [List.drop_zero, List.append_assoc]; rfl), Lib.hid (by rw [List.drop_zero]; exact HV.out), Lib.hid START.out.2.2, Lib.hid START.out.2.1⟩
  case round =>
    clear START HV hown
    obtain ⟨p, acc, hp, hgk, hal, HB, HE, HVD, HIT, HK⟩ := hrel
    by_cases hlt : p < s.size
    · have hnx : ∀ ty, (Instr.next (.pointer (some ⟨w1.heap.size, 0, none⟩)) true ty).run Tryd.prog wr = _ := fun ty => Lib.run_next_any_at wr w1.heap.size s p ty HIT.out hlt
      have hne : s.data.toList.drop p ≠ [] := fun e => by have h9 := congrArg List.length e; rw [List.length_drop, Array.length_toList] at h9; have : s.data.size = s.size := rfl; simp only [List.length_nil] at h9; omega
      obtain ⟨q1, q2, q3, q4⟩ := quo_step hne HVD.out
      have hrl : (Lib.decodeL (s.data.toList.drop p)).1 ≤ 1114111 := Lib.decodeL_rune _
      rw [Lib.decodeL_drop] at q1 q2 q3 q4 hrl
      rw [List.drop_drop] at q3 q4
      rw [List.length_drop, Array.length_toList] at q2
      have q2' : p + (Utf8.decode s p).2 ≤ s.size := by have : s.data.size = s.size := rfl; omega
      have hEQ := HE.out
      rw [q3] at hEQ
      have hQL := jqR_len (Utf8.decode s p).1
      have HVD2 := Lib.hid q4
      clear q2 q3 q4 HE HVD hne
      generalize Utf8.decode s p = d at *
      obtain ⟨r, n⟩ := d
      simp only at hnx q1 q2' hEQ HVD2 hrl hQL
      have HB2 := Lib.hid (buf_iter HB.out HIT.out (p + n))
      have HK2 := Lib.hid (HK.out.iter (k := w1.heap.size) hw1 hB s (p + n))
      have HIT2 := Lib.hid (Lib.iterAt_heap wr w1.heap.size s p (p + n) HIT.out)
      have hB2 : B ≤ (wr.iterAt w1.heap.size s (p + n)).heap.size := Nat.le_trans hB HK2.out.size
      generalize hW : wr.iterAt w1.heap.size s (p + n) = W at *
      clear HB HK HIT hW
      have HEQ := Lib.hid hEQ
      clear hEQ
      by_cases n34 : r = 34
      · as_aux_lemma =>
        have HRR := Lib.hid (show jqR r = [92, 34] from by rw [n34]; rfl)
        subst n34
        go_wp2_with (at_builtin; refine wpList_lit [92, 34] rfl _ _ rfl B _ acc rfl HB2.out rfl rfl (by simp only [List.length_cons, List.length_nil]; omega) hB2 ?_; intro v3 w3 hv3 hk3; have HV3 := Lib.hid hv3; have HK3 := Lib.hid hk3; clear hv3 hk3)
        go_roundg (gk - 1)
        all_goals first | omega | exact ⟨p + n, acc ++ [92, 34], q2', by omega, by rw [List.length_append]; simp only [List.length_cons, List.length_nil]; omega, HV3, Lib.hid (by have h9 := HEQ.out; rw [HRR.out, ← List.append_assoc] at h9; exact h9), HVD2, Lib.hid (HK3.out.itkept HIT2.out), Lib.hid (HK2.out.trans HK3.out)⟩
      have m34 : ((r : Int) == 34) = false := num_ne (d := 34) n34
      by_cases n92 : r = 92
      · as_aux_lemma =>
        have HRR := Lib.hid (show jqR r = [92, 92] from by rw [n92]; rfl)
        subst n92
        go_wp2_with (at_builtin; refine wpList_lit [92, 92] rfl _ _ rfl B _ acc rfl HB2.out rfl rfl (by simp only [List.length_cons, List.length_nil]; omega) hB2 ?_; intro v3 w3 hv3 hk3; have HV3 := Lib.hid hv3; have HK3 := Lib.hid hk3; clear hv3 hk3)
        go_roundg (gk - 1)
        all_goals first | omega | exact ⟨p + n, acc ++ [92, 92], q2', by omega, by rw [List.length_append]; simp only [List.length_cons, List.length_nil]; omega, HV3, Lib.hid (by have h9 := HEQ.out; rw [HRR.out, ← List.append_assoc] at h9; exact h9), HVD2, Lib.hid (HK3.out.itkept HIT2.out), Lib.hid (HK2.out.trans HK3.out)⟩
      have m92 : ((r : Int) == 92) = false := num_ne (d := 92) n92
      by_cases n8 : r = 8
      · as_aux_lemma =>
        have HRR := Lib.hid (show jqR r = [92, 98] from by rw [n8]; rfl)
        subst n8
        go_wp2_with (at_builtin; refine wpList_lit [92, 98] rfl _ _ rfl B _ acc rfl HB2.out rfl rfl (by simp only [List.length_cons, List.length_nil]; omega) hB2 ?_; intro v3 w3 hv3 hk3; have HV3 := Lib.hid hv3; have HK3 := Lib.hid hk3; clear hv3 hk3)
        go_roundg (gk - 1)
        all_goals first | omega | exact ⟨p + n, acc ++ [92, 98], q2', by omega, by rw [List.length_append]; simp only [List.length_cons, List.length_nil]; omega, HV3, Lib.hid (by have h9 := HEQ.out; rw [HRR.out, ← List.append_assoc] at h9; exact h9), HVD2, Lib.hid (HK3.out.itkept HIT2.out), Lib.hid (HK2.out.trans HK3.out)⟩
      have m8 : ((r : Int) == 8) = false := num_ne (d := 8) n8
      by_cases n9 : r = 9
      · as_aux_lemma =>
        have HRR := Lib.hid (show jqR r = [92, 116] from by rw [n9]; rfl)
        subst n9
        go_wp2_with (at_builtin; refine wpList_lit [92, 116] rfl _ _ rfl B _ acc rfl HB2.out rfl rfl (by simp only [List.length_cons, List.length_nil]; omega) hB2 ?_; intro v3 w3 hv3 hk3; have HV3 := Lib.hid hv3; have HK3 := Lib.hid hk3; clear hv3 hk3)
        go_roundg (gk - 1)
        all_goals first | omega | exact ⟨p + n, acc ++ [92, 116], q2', by omega, by rw [List.length_append]; simp only [List.length_cons, List.length_nil]; omega, HV3, Lib.hid (by have h9 := HEQ.out; rw [HRR.out, ← List.append_assoc] at h9; exact h9), HVD2, Lib.hid (HK3.out.itkept HIT2.out), Lib.hid (HK2.out.trans HK3.out)⟩
      have m9 : ((r : Int) == 9) = false := num_ne (d := 9) n9
      by_cases n10 : r = 10
      · as_aux_lemma =>
        have HRR := Lib.hid (show jqR r = [92, 110] from by rw [n10]; rfl)
        subst n10
        go_wp2_with (at_builtin; refine wpList_lit [92, 110] rfl _ _ rfl B _ acc rfl HB2.out rfl rfl (by simp only [List.length_cons, List.length_nil]; omega) hB2 ?_; intro v3 w3 hv3 hk3; have HV3 := Lib.hid hv3; have HK3 := Lib.hid hk3; clear hv3 hk3)
        go_roundg (gk - 1)
        all_goals first | omega | exact ⟨p + n, acc ++ [92, 110], q2', by omega, by rw [List.length_append]; simp only [List.length_cons, List.length_nil]; omega, HV3, Lib.hid (by have h9 := HEQ.out; rw [HRR.out, ← List.append_assoc] at h9; exact h9), HVD2, Lib.hid (HK3.out.itkept HIT2.out), Lib.hid (HK2.out.trans HK3.out)⟩
      have m10 : ((r : Int) == 10) = false := num_ne (d := 10) n10
      by_cases n12 : r = 12
      · as_aux_lemma =>
        have HRR := Lib.hid (show jqR r = [92, 102] from by rw [n12]; rfl)
        subst n12
        go_wp2_with (at_builtin; refine wpList_lit [92, 102] rfl _ _ rfl B _ acc rfl HB2.out rfl rfl (by simp only [List.length_cons, List.length_nil]; omega) hB2 ?_; intro v3 w3 hv3 hk3; have HV3 := Lib.hid hv3; have HK3 := Lib.hid hk3; clear hv3 hk3)
        go_roundg (gk - 1)
        all_goals first | omega | exact ⟨p + n, acc ++ [92, 102], q2', by omega, by rw [List.length_append]; simp only [List.length_cons, List.length_nil]; omega, HV3, Lib.hid (by have h9 := HEQ.out; rw [HRR.out, ← List.append_assoc] at h9; exact h9), HVD2, Lib.hid (HK3.out.itkept HIT2.out), Lib.hid (HK2.out.trans HK3.out)⟩
      have m12 : ((r : Int) == 12) = false := num_ne (d := 12) n12
      by_cases n13 : r = 13
      · as_aux_lemma =>
        have HRR := Lib.hid (show jqR r = [92, 114] from by rw [n13]; rfl)
        subst n13
        go_wp2_with (at_builtin; refine wpList_lit [92, 114] rfl _ _ rfl B _ acc rfl HB2.out rfl rfl (by simp only [List.length_cons, List.length_nil]; omega) hB2 ?_; intro v3 w3 hv3 hk3; have HV3 := Lib.hid hv3; have HK3 := Lib.hid hk3; clear hv3 hk3)
        go_roundg (gk - 1)
        all_goals first | omega | exact ⟨p + n, acc ++ [92, 114], q2', by omega, by rw [List.length_append]; simp only [List.length_cons, List.length_nil]; omega, HV3, Lib.hid (by have h9 := HEQ.out; rw [HRR.out, ← List.append_assoc] at h9; exact h9), HVD2, Lib.hid (HK3.out.itkept HIT2.out), Lib.hid (HK2.out.trans HK3.out)⟩
      have m13 : ((r : Int) == 13) = false := num_ne (d := 13) n13
      by_cases n32 : r < 32
      · have hr32 : (r : Int) < 32 := by omega
        have hx1 := fun W => hexIx1 r n32 W
        have hx2 := fun W => hexIx2 r n32 W
        have HRR := Lib.hid (jqR_ctl n32 n8 n9 n10 n12 n13)
        have h1 : r / 16 < 16 := by omega
        have h2 : r % 16 < 16 := by omega
        generalize hexd (r / 16) = x1 at *
        generalize hexd (r % 16) = x2 at *
        have HBd := Lib.hid (buf_ext HB2.out (Below.drew (Below.refl W.heap.size W)))
        go_wp2_with fail
        go_region_law (first
          | (refine step_lit (w0 := W.drew) [92, 117, 48, 48, x1, x2] (by rfl) _ _ (by rfl) B _ acc (by rfl) HBd.out (by rfl) (by rfl) (by simp only [List.length_cons, List.length_nil]; omega) hB2 ?_; intro v3 w3 hv3 hk3))
        all_goals have HV3 := Lib.hid hv3
        all_goals have HK3 := Lib.hid ((K5.of_below (Below.drew (Below.refl W.heap.size W)) hB2).trans hk3)
        all_goals clear hv3 hk3 hx1 hx2
        all_goals go_wp2
        all_goals go_roundg (gk - 1)
        all_goals first | omega | exact ⟨p + n, acc ++ [92, 117, 48, 48, x1, x2], q2', by omega, by rw [List.length_append]; simp only [List.length_cons, List.length_nil]; omega, HV3, Lib.hid (by have h9 := HEQ.out; rw [HRR.out, ← List.append_assoc] at h9; exact h9), HVD2, Lib.hid (HK3.out.itkept HIT2.out), Lib.hid (HK2.out.trans HK3.out)⟩
      · as_aux_lemma =>
        have hr32 : ¬ (r : Int) < 32 := by omega
        have HRR := Lib.hid (jqR_enc (r := r) (by omega) n34 n92)
        have har := appRune_c B _ acc r hrl W HB2.out (by omega) hB2
        rw [HRR.out] at hQL
        go_wp2_with fail
        refine har.mono ?_; rintro e w3 ⟨v3, rfl, hv3, hk3⟩
        have HV3 := Lib.hid hv3
        have HK3 := Lib.hid hk3
        clear har hv3 hk3
        go_wp2
        go_roundg (gk - 1)
        all_goals first | omega | exact ⟨p + n, acc ++ Lib.encodeRune r, q2', by omega, by rw [List.length_append]; omega, HV3, Lib.hid (by have h9 := HEQ.out; rw [HRR.out, ← List.append_assoc] at h9; exact h9), HVD2, Lib.hid (HK3.out.itkept HIT2.out), Lib.hid (HK2.out.trans HK3.out)⟩
    · have hnx : ∀ ty, (Instr.next (.pointer (some ⟨w1.heap.size, 0, none⟩)) true ty).run Tryd.prog wr = _ := fun ty => Lib.run_next_end_at wr w1.heap.size s p ty HIT.out hlt
      have hpe : p = s.size := by omega
      have hend : acc = l ++ 34 :: jqs s.data.toList := by
        have h9 := HE.out
        rw [List.drop_of_length_le (by rw [Array.length_toList]; show s.size ≤ p; omega)] at h9
        simpa [jqs] using h9
      have hBw : B ≤ wr.heap.size := Nat.le_trans hB HK.out.size
      clear HE
      go_wp2_with (at_builtin; refine wpList_lit [34] rfl _ _ rfl B _ acc rfl HB.out rfl rfl (by simp only [List.length_cons, List.length_nil]; omega) hBw ?_; intro v3 w3 hv3 hk3; have HV3 := Lib.hid hv3; have HK3 := Lib.hid hk3; clear hv3 hk3)
      go_ret
      exact ⟨_, rfl, by have h9 := HV3.out; rw [hend] at h9; simpa [jq, List.append_assoc] using h9, HK.out.trans HK3.out⟩
end Go.Proofs.YtbkbokfegjodnaaDoor
