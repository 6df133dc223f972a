/- The walks of numbers as four bytes, program and document. Conditions: what is laid is shorter than 2 to the 40. -/
import Derived.Test.YtkpickojeghppaaDoorWsum
import Derived.BigQuiet
import Derived.IntWalk
import Derived.RegionTactic
import Derived.Deep.AppendLies
namespace Go.Proofs.YtkpickojeghppaaDoor
open Go.RowKit
theorem bytTy : SlTy Tryd.prog 28 5 (.int .u8 0) 1 1 := ⟨by kernel_rfl, by kernel_rfl, by kernel_rfl, by decide⟩
/-- the slice v, of a block of its own, holds the bytes l -/
def BSlab (w : World) (v : Value) (l : List UInt8) : Prop := Slab w 1 v l.length (bytesV l)
theorem bslab_nil (w : World) : BSlab w (.slice none 0 0) [] := slab_nil w 1
theorem bytesV_append (a b : List UInt8) : bytesV (a ++ b) = bytesV a ++ bytesV b := by simp [bytesV]
theorem BSlab.bytes {w : World} {v : Value} {l : List UInt8} (h : BSlab w v l) : ∃ A cap, v = .slice A l.length cap ∧ l.length ≤ cap ∧ cap ≤ maxLen ∧ BytesIn w A l := by
  obtain ⟨A, cap, hv, h1, h2, h3⟩ := Slab.form h
  refine ⟨A, cap, hv, h1, h2, ?_⟩
  rcases h3 with ⟨rfl, h, _⟩ | ⟨g, off, rfl, _, _, h, _⟩
  · exact .inl (List.eq_nil_of_length_eq_zero h)
  · exact .inr ⟨g, off, rfl, h⟩
theorem u8_of (n : Nat) : IntKind.u8.wrap (n : Int) = ((UInt8.ofNat n).toNat : Int) := by
  simp [IntKind.wrap, IntKind.bits, IntKind.signed]
/-- what an append of bytes comes to -/
def AppPost (v : Value) (w : World) (l : List UInt8) (e : Ending) (w' : World) : Prop := ∃ v', e = .returned v' ∧ BSlab w' v' l ∧ Upd w w' v.ownBlock v'.ownBlock
theorem app_post {w w1 w2 : World} {v v' : Value} {l m : List UInt8} {n : Nat} {xs : List Value} (hb : Below w.heap.size w w1) (h : Slab w2 1 v' n xs) (hn : n = (l ++ m).length) (hx : xs = bytesV (l ++ m)) (hu : Upd w1 w2 v.ownBlock v'.ownBlock) :
    BSlab w2 v' (l ++ m) ∧ Upd w w2 v.ownBlock v'.ownBlock := by
  subst hn
  subst hx
  refine ⟨h, (Upd.of_below hb _).trans hu⟩
theorem four_cells (n : Nat) (hn : n < 4294967296) : bytesV (four n) = [.int .u8 ((n : Int) % 256), .int .u8 ((n : Int) / 256 % 256), .int .u8 ((n : Int) / 65536 % 256), .int .u8 ((n : Int) / 16777216)] := by
  simp [bytesV, four]
  omega
theorem src_four {w : World} (n : Nat) (hn : n < 4294967296) (T : TypeId) (hT : Tryd.prog.underlying T = some (.slice 5)) :
    Src Tryd.prog 1 T (.slice (some ⟨w.heap.size, 0, none⟩) 4 4) 4 (bytesV (four n)) (w.alloc (.cells #[.int .u8 ((n : Int) % 256), .int .u8 ((n : Int) / 256 % 256), .int .u8 ((n : Int) / 65536 % 256), .int .u8 ((n : Int) / 16777216)] 5)) :=
  Src.ofSlice _ hT _ _ _ _ rfl (by rw [four_cells n hn]; exact World.news_of_block (heap_alloc_new w _)) (by rw [four_cells n hn]; simp [Value.oneCell'])
set_option maxRecDepth 20000 in
set_option maxHeartbeats 2000000 in
theorem refFour_c (v : Value) (l : List UInt8) (n : Nat) (hn : n < 4294967296) (hl : l.length ≤ 1099511627776) (w : World) (h : BSlab w v l) :
    Calls Tryd.prog 50 #[v, .int .u32 (n : Int)] w (AppPost v w (l ++ four n)) := by
  have H := Lib.hid h
  have hsrc := Lib.hid (src_four (w := w) n hn 28 bytTy.slice)
  have hb : Below w.heap.size w (w.alloc (.cells #[.int .u8 ((n : Int) % 256), .int .u8 ((n : Int) / 256 % 256), .int .u8 ((n : Int) / 65536 % 256), .int .u8 ((n : Int) / 16777216)] 5)) := (Below.refl _ _).alloc (Nat.le_refl _) _
  have HB := Lib.hid hb
  clear h hb
  go_enter Tryd.func50, Tryd.ntmps50
  go_wp2_with (at_builtin; refine wpList_slab bytTy 28 (by rfl) _ _ (by rfl) v l.length (bytesV l) (by rfl) (Slab.below H.out HB.out) _ (by rfl) 4 (bytesV (four n)) hsrc.out (by unfold maxLen; omega) (by omega) ?_; intro v' w1 hs1 hu1; have HS := Lib.hid (And.intro hs1 hu1); clear hs1 hu1)
  go_ret
  refine ⟨v', rfl, ?_⟩
  exact app_post HB.out HS.out.1 (by rw [List.length_append, four_len]) (bytesV_append _ _).symm HS.out.2
/-- the bytes of numbers -/
def fours (ns : List Nat) : List UInt8 := ns.flatMap four
theorem fours_len (ns : List Nat) : (fours ns).length = 4 * ns.length := by
  induction ns with
  | nil => rfl
  | cons n r ih => simp only [fours, List.flatMap_cons, List.length_append, four_len, List.length_cons] at *; omega
theorem fours_take (ns : List Nat) (k : Nat) (h : k < ns.length) : fours (ns.take (k + 1)) = fours (ns.take k) ++ four ns[k] := by
  unfold fours; rw [List.take_succ_eq_append_getElem h, List.flatMap_append]; simp
def numsV (ns : List Nat) : List Value := ns.map fun (n : Nat) => Value.int .u32 (n : Int)
theorem Upd.keep {w w' : World} {r r' : Option Nat} (h : Upd w w' r r') {G o : Nat} {xs : List Value} (hr : w.rangeAt G o xs) (hG : G < w.heap.size) (hne : r ≠ some G) : w'.rangeAt G o xs := rangeAt_same hr (h.block hG hne)
set_option maxRecDepth 20000 in
set_option maxHeartbeats 4000000 in
theorem laid_c (v : Value) (l : List UInt8) (ns : List Nat) (hns : ∀ n ∈ ns, n < 4294967296) (hl : l.length ≤ 549755813888) (hnl : ns.length ≤ 1000) (G o c : Nat) (w : World) (h : BSlab w v l) (hr : w.rangeAt G o (numsV ns)) (hG : G < w.heap.size) (hne : v.ownBlock ≠ some G) :
    Calls Tryd.prog 48 #[v, .slice (some ⟨G, o, none⟩) ns.length c] w (AppPost v w (l ++ fours ns)) := by
  have H := Lib.hid h
  have HR := Lib.hid hr
  have HNE := Lib.hid hne
  have HNS := Lib.hid hns
  clear h hr hne hns
  go_enter Tryd.func48, Tryd.ntmps48
  go_wp2
  go_loopw [0, 6, 9] (fun b _ i wr => ∃ (k : Nat) (v' : Value), k ≤ ns.length ∧ i = .int .i64 k ∧ v' = b ∧ Hid (BSlab wr v' (l ++ fours (ns.take k))) ∧ Hid (Upd w wr v.ownBlock v'.ownBlock)) (fun _ _ i _ => ns.length - (intOf i).toNat)
  case atStart => exact ⟨0, v, Nat.zero_le _, rfl, rfl, Lib.hid (by simpa [fours] using H.out), Lib.hid (Upd.refl _ _)⟩
  case round =>
    obtain ⟨k, v', hk, rfl, rfl, HS, HU⟩ := hrel
    by_cases hlt : k < ns.length
    · have hc : wr.cell? ⟨G, o + k, none⟩ = some (.int .u32 (ns[k] : Int)) := by
        have := (HU.out.keep HR.out hG HNE.out) k (.int .u32 (ns[k] : Int)) (by simp [numsV, hlt])
        exact this
      have hn := HNS.out ns[k] (List.getElem_mem hlt)
      have HT := Lib.hid (fours_take ns k hlt)
      have hlen : (fours (ns.take k)).length ≤ 4000 := by rw [fours_len, List.length_take]; omega
      generalize ns[k] = n at *
      have hsrc := Lib.hid (src_four (w := wr) n hn 28 bytTy.slice)
      have hb : Below wr.heap.size wr (wr.alloc (.cells #[.int .u8 ((n : Int) % 256), .int .u8 ((n : Int) / 256 % 256), .int .u8 ((n : Int) / 65536 % 256), .int .u8 ((n : Int) / 16777216)] 5)) := (Below.refl _ _).alloc (Nat.le_refl _) _
      have HB := Lib.hid hb
      have hl4 : (l ++ fours (ns.take k)).length = l.length + (fours (ns.take k)).length := List.length_append
      clear hb
      generalize fours (ns.take k) = f at *
      go_wp2_with (at_builtin; refine wpList_slab bytTy 28 (by rfl) _ _ (by rfl) v' (l ++ f).length (bytesV (l ++ f)) (by rfl) (Slab.below HS.out HB.out) _ (by rfl) 4 (bytesV (four n)) hsrc.out (by unfold maxLen; omega) (by omega) ?_; intro v2 w1 hs1 hu1; have HS1 := Lib.hid (And.intro hs1 hu1); clear hs1 hu1)
      go_roundw
      case rel =>
        obtain ⟨h1, h2⟩ := app_post HB.out HS1.out.1 (by simp only [List.length_append, four_len]) (bytesV_append _ _).symm HS1.out.2
        exact ⟨k + 1, v2, by omega, by go_num, rfl, Lib.hid (by rw [HT.out, ← List.append_assoc]; exact h1), Lib.hid (HU.out.trans h2)⟩
      case measure => simp [intOf]; omega
    · obtain rfl : k = ns.length := by omega
      go_wp2
      go_ret
      refine ⟨_, rfl, ?_, HU.out⟩
      have := HS.out
      rwa [List.take_length] at this
theorem bits_or_u32_nat (a b : Nat) (ha : a < 4294967296) (hb : b < 4294967296) : bits .or .u32 (a : Int) (b : Int) = ((a ||| b : Nat) : Int) := by
  have hx : a ||| b < 2 ^ 32 := Nat.or_lt_two_pow (by omega) (by omega)
  have h1 : (BitVec.ofInt 32 (a : Int)).toNat = a := by
    rw [BitVec.ofInt_natCast, BitVec.toNat_ofNat]; exact Nat.mod_eq_of_lt (by omega)
  have h2 : (BitVec.ofInt 32 (b : Int)).toNat = b := by
    rw [BitVec.ofInt_natCast, BitVec.toNat_ofNat]; exact Nat.mod_eq_of_lt (by omega)
  show IntKind.u32.wrap ((BitVec.ofInt 32 (a : Int) ||| BitVec.ofInt 32 (b : Int)).toNat : Int) = _
  rw [BitVec.toNat_or, h1, h2, wrap_u32]
  omega
theorem or_shl (a b i : Nat) (h : a < 2 ^ i) : a ||| (b * 2 ^ i) = a + b * 2 ^ i := by
  rw [Nat.or_comm, ← Nat.shiftLeft_eq, ← Nat.shiftLeft_add_eq_or_of_lt h, Nat.add_comm]
theorem four_bits (a b c d : Nat) (ha : a < 256) (hb : b < 256) (hc : c < 256) (hd : d < 256) :
    bits .or .u32 (bits .or .u32 (bits .or .u32 (a : Int) ((b : Int) * 256)) ((c : Int) * 65536)) ((d : Int) * 16777216) = ((a + 256 * b + 65536 * c + 16777216 * d : Nat) : Int) := by
  have e1 : bits .or .u32 (a : Int) ((b : Int) * 256) = ((a + b * 256 : Nat) : Int) := by
    have := bits_or_u32_nat a (b * 256) (by omega) (by omega)
    rw [or_shl a b 8 (by omega)] at this
    exact this
  have e2 : bits .or .u32 ((a + b * 256 : Nat) : Int) ((c : Int) * 65536) = ((a + b * 256 + c * 65536 : Nat) : Int) := by
    have := bits_or_u32_nat (a + b * 256) (c * 65536) (by omega) (by omega)
    rw [or_shl _ c 16 (by omega)] at this
    exact this
  have e3 : bits .or .u32 ((a + b * 256 + c * 65536 : Nat) : Int) ((d : Int) * 16777216) = ((a + b * 256 + c * 65536 + d * 16777216 : Nat) : Int) := by
    have := bits_or_u32_nat (a + b * 256 + c * 65536) (d * 16777216) (by omega) (by omega)
    rw [or_shl _ d 24 (by omega)] at this
    exact this
  rw [e1, e2, e3]
  congr 1
  omega
theorem bt_get {l : List UInt8} {k : Nat} (h : k < l.length) : bt l k = (l[k]).toNat := by unfold bt; simp [h]
set_option maxRecDepth 20000 in
set_option maxHeartbeats 4000000 in
theorem number_c (G o c : Nat) (l : List UInt8) (k : Nat) (hk : k + 4 ≤ l.length) (hl : l.length ≤ 1099511627776) (w : World) (hr : w.rangeAt G o (bytesV l)) :
    Calls Tryd.prog 51 #[.slice (some ⟨G, o, none⟩) l.length c, .int .i64 (k : Int)] w fun e w' => e = .returned (.int .u32 (numb l k : Int)) ∧ ∃ m, w' = w.drewN m := by
  have c0 := range_byte hr k (by omega)
  have c1 := range_byte hr (k + 1) (by omega)
  have c2 := range_byte hr (k + 2) (by omega)
  have c3 := range_byte hr (k + 3) (by omega)
  have hb0 := (l[k]).toNat_lt
  have hb1 := (l[k + 1]).toNat_lt
  have hb2 := (l[k + 2]).toNat_lt
  have hb3 := (l[k + 3]).toNat_lt
  have w1 : IntKind.i64.wrap ((k : Int) + 1) = (k : Int) + 1 := IntWalk.i64_in _ (by omega)
  have w2 : IntKind.i64.wrap ((k : Int) + 2) = (k : Int) + 2 := IntWalk.i64_in _ (by omega)
  have w3 : IntKind.i64.wrap ((k : Int) + 3) = (k : Int) + 3 := IntWalk.i64_in _ (by omega)
  have n1 : ((k : Int) + 1).toNat = k + 1 := by omega
  have n2 : ((k : Int) + 2).toNat = k + 2 := by omega
  have n3 : ((k : Int) + 3).toNat = k + 3 := by omega
  have p1 : 0 ≤ (k : Int) + 1 := by omega
  have p2 : 0 ≤ (k : Int) + 2 := by omega
  have p3 : 0 ≤ (k : Int) + 3 := by omega
  have l0 : (k : Int) < (l.length : Int) := by omega
  have l1 : (k : Int) + 1 < (l.length : Int) := by omega
  have l2 : (k : Int) + 2 < (l.length : Int) := by omega
  have l3 : (k : Int) + 3 < (l.length : Int) := by omega
  have HN := Lib.hid (show numb l k = (l[k]).toNat + 256 * (l[k + 1]).toNat + 65536 * (l[k + 2]).toNat + 16777216 * (l[k + 3]).toNat by unfold numb; rw [bt_get (show k < l.length by omega), bt_get (show k + 1 < l.length by omega), bt_get (show k + 2 < l.length by omega), bt_get (show k + 3 < l.length by omega)])
  clear hr
  generalize l[k] = b0 at *
  generalize l[k + 1] = b1 at *
  generalize l[k + 2] = b2 at *
  generalize l[k + 3] = b3 at *
  go_enter Tryd.func51, Tryd.ntmps51
  go_wp2
  go_quiet (fail)
  go_wp2
  go_ret
  exact ⟨ret_int (by rw [HN.out]; exact four_bits _ _ _ _ hb0 hb1 hb2 hb3), nq, rfl⟩
set_option maxRecDepth 20000 in
set_option maxHeartbeats 4000000 in
theorem refNumber_c (G o c : Nat) (l : List UInt8) (hk : 4 ≤ l.length) (hl : l.length ≤ 1099511627776) (w : World) (hr : w.rangeAt G o (bytesV l)) :
    Calls Tryd.prog 53 #[.slice (some ⟨G, o, none⟩) l.length c] w fun e w' => e = .returned (.int .u32 (numb l 0 : Int)) ∧ ∃ m, w' = w.drewN m := by
  have c0 : w.cell? ⟨G, o, none⟩ = _ := range_byte hr 0 (by omega)
  have c1 := range_byte hr 1 (by omega)
  have c2 := range_byte hr 2 (by omega)
  have c3 := range_byte hr 3 (by omega)
  have hb0 := (l[0]).toNat_lt
  have hb1 := (l[1]).toNat_lt
  have hb2 := (l[2]).toNat_lt
  have hb3 := (l[3]).toNat_lt
  have l0 : (0 : Int) < (l.length : Int) := by omega
  have l1 : (1 : Int) < (l.length : Int) := by omega
  have l2 : (2 : Int) < (l.length : Int) := by omega
  have l3 : (3 : Int) < (l.length : Int) := by omega
  have HN := Lib.hid (show numb l 0 = (l[0]).toNat + 256 * (l[1]).toNat + 65536 * (l[2]).toNat + 16777216 * (l[3]).toNat by unfold numb; rw [bt_get (show 0 < l.length by omega), bt_get (show 0 + 1 < l.length by omega), bt_get (show 0 + 2 < l.length by omega), bt_get (show 0 + 3 < l.length by omega)])
  clear hr
  generalize l[0] = b0 at *
  generalize l[1] = b1 at *
  generalize l[2] = b2 at *
  generalize l[3] = b3 at *
  go_enter Tryd.func53, Tryd.ntmps53
  go_wp2
  go_quiet (fail)
  go_wp2
  go_ret
  exact ⟨ret_int (by rw [HN.out]; exact four_bits _ _ _ _ hb0 hb1 hb2 hb3), nq, rfl⟩
end Go.Proofs.YtkpickojeghppaaDoor
