/- The walks of Sum, Pack and what they call, the program and the document. Conditions: what the laws name. -/
import Derived.Test.YtkpickojeghppaaDoorProg
import Derived.Test.YtkpickojeghppaaDoorBase
import Derived.BigQuiet
import Derived.IntWalk
import Derived.RegionTactic
import Derived.Deep.AppendLies
import Derived.Lib.SlBytesConst
namespace Go.Proofs.YtkpickojeghppaaDoor
open Go.RowKit
def bytesV (l : List UInt8) : List Value := l.map fun c => .int .u8 (c.toNat : Int)
theorem bytesV_len (l : List UInt8) : (bytesV l).length = l.length := by simp [bytesV]
/-- the bytes l lie behind the address A -/
def BytesIn (w : World) (A : Option Addr) (l : List UInt8) : Prop := l = [] ∨ ∃ G o, A = some ⟨G, o, none⟩ ∧ w.rangeAt G o (bytesV l)
theorem range_byte {w : World} {G o : Nat} {l : List UInt8} (h : w.rangeAt G o (bytesV l)) (j : Nat) (hj : j < l.length) : w.cell? ⟨G, o + j, none⟩ = some (.int .u8 ((l[j]).toNat : Int)) := h j _ (by simp [bytesV, hj])
theorem BytesIn.same {w w' : World} {A : Option Addr} {l : List UInt8} (h : BytesIn w A l) (hb : ∀ G o, A = some ⟨G, o, none⟩ → w'.heap[G]? = w.heap[G]?) : BytesIn w' A l := by
  rcases h with h | ⟨G, o, rfl, h⟩
  · exact .inl h
  · exact .inr ⟨G, o, rfl, rangeAt_same h (hb G o rfl)⟩
theorem BytesIn.below {w w' : World} {A : Option Addr} {l : List UInt8} (h : BytesIn w A l) (hb : Below w.heap.size w w') : BytesIn w' A l := by
  cases l with
  | nil => exact .inl rfl
  | cons c l =>
    rcases h with h | ⟨G, o, rfl, h⟩
    · cases h
    · refine .inr ⟨G, o, rfl, rangeAt_same h (hb.block G ?_)⟩
      have := h 0 _ (by simp [bytesV]; rfl)
      exact cell_lt this
theorem wrap_u32 (n : Int) : IntKind.u32.wrap n = n % 4294967296 := by simp [IntKind.wrap, IntKind.bits, IntKind.signed]
theorem bits_xor_u32_nat (a b : Nat) (ha : a < 4294967296) (hb : b < 4294967296) : bits .xor .u32 (a : Int) (b : Int) = ((a ^^^ b : Nat) : Int) := by
  have hx : a ^^^ b < 2 ^ 32 := Nat.xor_lt_two_pow (by omega) (by omega)
  have h1 : (BitVec.ofInt 32 (a : Int)).toNat = a := by
    rw [BitVec.ofInt_natCast, BitVec.toNat_ofNat]; exact Nat.mod_eq_of_lt (by omega)
  have h2 : (BitVec.ofInt 32 (b : Int)).toNat = b := by
    rw [BitVec.ofInt_natCast, BitVec.toNat_ofNat]; exact Nat.mod_eq_of_lt (by omega)
  show IntKind.u32.wrap ((BitVec.ofInt 32 (a : Int) ^^^ BitVec.ofInt 32 (b : Int)).toNat : Int) = _
  rw [BitVec.toNat_xor, h1, h2, wrap_u32]
  omega
theorem bits_and_u32_one (a : Nat) (ha : a < 4294967296) : bits .and .u32 (a : Int) 1 = ((a % 2 : Nat) : Int) := by
  have h1 : (BitVec.ofInt 32 (a : Int)).toNat = a := by
    rw [BitVec.ofInt_natCast, BitVec.toNat_ofNat]; exact Nat.mod_eq_of_lt (by omega)
  have h2 : (BitVec.ofInt 32 (1 : Int)).toNat = 1 := by decide
  show IntKind.u32.wrap ((BitVec.ofInt 32 (a : Int) &&& BitVec.ofInt 32 (1 : Int)).toNat : Int) = _
  rw [BitVec.toNat_and, h1, h2, wrap_u32, Nat.and_one_is_mod]
  omega
theorem bits_not_u32 (y : Nat) (hy : y < 4294967296) : bits .xor .u32 IntKind.u32.max (y : Int) = ((4294967295 - y : Nat) : Int) := by
  have h1 : (BitVec.ofInt 32 (y : Int)).toNat = y := by
    rw [BitVec.ofInt_natCast, BitVec.toNat_ofNat]; exact Nat.mod_eq_of_lt (by omega)
  have h2 : BitVec.ofInt 32 IntKind.u32.max = BitVec.allOnes 32 := by decide
  show IntKind.u32.wrap ((BitVec.ofInt 32 IntKind.u32.max ^^^ BitVec.ofInt 32 (y : Int)).toNat : Int) = _
  rw [h2, BitVec.allOnes_xor, BitVec.toNat_not, h1, wrap_u32]
  omega
theorem crcFrom_take (c : Nat) (l : List UInt8) (k : Nat) (h : k < l.length) : crcFrom c (l.take (k + 1)) = crcByte (crcFrom c (l.take k)) l[k] := by
  rw [List.take_succ_eq_append_getElem h, crcFrom_append]; rfl
set_option maxRecDepth 20000 in
set_option maxHeartbeats 2000000 in
theorem sum_c (A : Option Addr) (c : Nat) (l : List UInt8) (hl : l.length ≤ maxLen) (w : World) (h : BytesIn w A l) :
    Calls Tryd.prog 18 #[.slice A l.length c] w fun e w' => e = .returned (.int .u32 (crc l : Int)) ∧ w' = w := by
  unfold maxLen at hl
  have H := Lib.hid h
  clear h
  go_enter Tryd.func18, Tryd.ntmps18
  go_wp2
  go_loop [3, 5, 8] (fun x _ i => ∃ (k y : Nat), k ≤ l.length ∧ i = .int .i64 k ∧ x = .int .u32 (y : Int) ∧ y < 4294967296 ∧ Hid (y = crcFrom 4294967295 (l.take k))) (fun _ _ i => l.length - (intOf i).toNat)
  case atStart => exact ⟨0, 4294967295, Nat.zero_le _, rfl, rfl, by omega, Lib.hid (by simp [crcFrom])⟩
  case round =>
    obtain ⟨k, y, hk, rfl, rfl, hy, HY⟩ := hrel
    by_cases hlt : k < l.length
    · obtain ⟨G, o, rfl, hr⟩ : ∃ G o, A = some ⟨G, o, none⟩ ∧ w.rangeAt G o (bytesV l) := by
        rcases H.out with h | h
        · rw [h] at hlt; simp at hlt
        · exact h
      have hc := range_byte hr k hlt
      have HT := Lib.hid (crcFrom_take 4294967295 l k hlt)
      have hb := (l[k]).toNat_lt
      have hx := bits_xor_u32_nat y (l[k]).toNat hy (by omega)
      have hwb : IntKind.u32.wrap ((l[k]).toNat : Int) = ((l[k]).toNat : Int) := by rw [wrap_u32]; omega
      have hz : y ^^^ (l[k]).toNat < 4294967296 := Nat.xor_lt_two_pow (n := 32) (by omega) (by omega)
      have HB := Lib.hid (show crcByte y l[k] = crcBits 8 (y ^^^ (l[k]).toNat) from rfl)
      clear hr
      generalize (y ^^^ (l[k]).toNat) = z at *
      generalize l[k] = b at *
      have HTK := Lib.hid (show crcFrom 4294967295 (l.take (k + 1)) = crcBits 8 z by rw [HT.out, ← HY.out]; exact HB.out)
      clear HT HY HB
      go_wp2
      go_loop [3, 16] (fun x j => ∃ (n v : Nat), n ≤ 8 ∧ j = .int .i64 n ∧ x = .int .u32 (v : Int) ∧ v < 4294967296 ∧ Hid (crcBits (8 - n) v = crcBits 8 z)) (fun _ j => 8 - (intOf j).toNat)
      case atStart => exact ⟨0, z, by omega, rfl, rfl, hz, Lib.hid rfl⟩
      case round =>
        obtain ⟨n, v, hn, rfl, rfl, hv, HV⟩ := hrel
        by_cases hn8 : n < 8
        · obtain ⟨m, hm⟩ : ∃ m, 8 - n = m + 1 := ⟨7 - n, by omega⟩
          have HV2 := Lib.hid (show crcBits m (crcBit v) = crcBits 8 z by have := HV.out; rw [hm] at this; exact this)
          have HM := Lib.hid (show 8 - (n + 1) = m by omega)
          have ha := bits_and_u32_one v hv
          clear hm HV
          by_cases hp : v % 2 = 1
          · have HC := Lib.hid (show crcBit v = (v / 2) ^^^ 2197175160 from if_pos hp)
            have hlt2 : (v / 2) ^^^ 2197175160 < 4294967296 := Nat.xor_lt_two_pow (n := 32) (by omega) (by omega)
            have hx : bits .xor .u32 ((v : Int) / 2) 2197175160 = (((v / 2) ^^^ 2197175160 : Nat) : Int) := bits_xor_u32_nat (v / 2) 2197175160 (by omega) (by omega)
            generalize (v / 2) ^^^ 2197175160 = z2 at *
            rw [hp] at ha
            have ha' : bits .and .u32 (v : Int) 1 = 1 := ha
            clear ha hp
            go_wp2
            go_round
            case rel => exact ⟨n + 1, z2, by omega, by go_num, rfl, hlt2, Lib.hid (by rw [HM.out, ← HC.out]; exact HV2.out)⟩
            case measure => simp [intOf]; omega
          · have HC := Lib.hid (show crcBit v = v / 2 from if_neg hp)
            rw [show v % 2 = 0 by omega] at ha
            have ha' : bits .and .u32 (v : Int) 1 = 0 := ha
            clear ha hp
            go_wp2
            go_round
            case rel => exact ⟨n + 1, v / 2, by omega, by go_num, rfl, by omega, Lib.hid (by rw [HM.out, ← HC.out]; exact HV2.out)⟩
            case measure => simp [intOf]; omega
        · obtain rfl : n = 8 := by omega
          go_wp2
          go_round
          case rel => exact ⟨k + 1, v, by omega, by go_num, rfl, hv, Lib.hid (by rw [HTK.out, ← HV.out]; rfl)⟩
          case measure => simp [intOf]; omega
    · obtain rfl : k = l.length := by omega
      have HY' := Lib.hid (show y = crcFrom 4294967295 l by have := HY.out; rwa [List.take_length] at this)
      have HE := Lib.hid (show 4294967295 - y = crc l by have := HY'.out; unfold crc; rw [← this])
      have hn := bits_not_u32 y hy
      clear HY
      go_wp2
      go_ret
      exact ⟨by rw [← HE.out]; rfl, rfl⟩
set_option maxRecDepth 20000 in
set_option maxHeartbeats 2000000 in
theorem refSum_c (A : Option Addr) (c : Nat) (l : List UInt8) (hl : l.length ≤ maxLen) (w : World) (h : BytesIn w A l) :
    Calls Tryd.prog 19 #[.slice A l.length c] w fun e w' => e = .returned (.int .u32 (crc l : Int)) ∧ w' = w := by
  unfold maxLen at hl
  have H := Lib.hid h
  clear h
  go_enter Tryd.func19, Tryd.ntmps19
  go_wp2
  go_loop [3, 4, 5] (fun x i _ => ∃ (k y : Nat), k ≤ l.length ∧ i = .int .i64 k ∧ x = .int .u32 (y : Int) ∧ y < 4294967296 ∧ Hid (y = crcFrom 4294967295 (l.take k))) (fun _ i _ => l.length - (intOf i).toNat)
  case atStart => exact ⟨0, 4294967295, Nat.zero_le _, rfl, rfl, by omega, Lib.hid (by simp [crcFrom])⟩
  case round =>
    obtain ⟨k, y, hk, rfl, rfl, hy, HY⟩ := hrel
    by_cases hlt : k < l.length
    · obtain ⟨G, o, rfl, hr⟩ : ∃ G o, A = some ⟨G, o, none⟩ ∧ w.rangeAt G o (bytesV l) := by
        rcases H.out with h | h
        · rw [h] at hlt; simp at hlt
        · exact h
      have hc := range_byte hr k hlt
      have HT := Lib.hid (crcFrom_take 4294967295 l k hlt)
      have hb := (l[k]).toNat_lt
      have hx := bits_xor_u32_nat y (l[k]).toNat hy (by omega)
      have hwb : IntKind.u32.wrap ((l[k]).toNat : Int) = ((l[k]).toNat : Int) := by rw [wrap_u32]; omega
      have hz : y ^^^ (l[k]).toNat < 4294967296 := Nat.xor_lt_two_pow (n := 32) (by omega) (by omega)
      have HB := Lib.hid (show crcByte y l[k] = crcBits 8 (y ^^^ (l[k]).toNat) from rfl)
      clear hr
      generalize (y ^^^ (l[k]).toNat) = z at *
      generalize l[k] = b at *
      have HTK := Lib.hid (show crcFrom 4294967295 (l.take (k + 1)) = crcBits 8 z by rw [HT.out, ← HY.out]; exact HB.out)
      clear HT HY HB
      go_wp2
      go_loop [3, 5] (fun x j => ∃ (n v : Nat), n ≤ 8 ∧ j = .int .i64 n ∧ x = .int .u32 (v : Int) ∧ v < 4294967296 ∧ Hid (crcBits (8 - n) v = crcBits 8 z)) (fun _ j => 8 - (intOf j).toNat)
      case atStart => exact ⟨0, z, by omega, rfl, rfl, hz, Lib.hid rfl⟩
      case round =>
        obtain ⟨n, v, hn, rfl, rfl, hv, HV⟩ := hrel
        by_cases hn8 : n < 8
        · obtain ⟨m, hm⟩ : ∃ m, 8 - n = m + 1 := ⟨7 - n, by omega⟩
          have HV2 := Lib.hid (show crcBits m (crcBit v) = crcBits 8 z by have := HV.out; rw [hm] at this; exact this)
          have HM := Lib.hid (show 8 - (n + 1) = m by omega)
          clear hm HV
          by_cases hp : v % 2 = 1
          · have HC := Lib.hid (show crcBit v = (v / 2) ^^^ 2197175160 from if_pos hp)
            have hlt2 : (v / 2) ^^^ 2197175160 < 4294967296 := Nat.xor_lt_two_pow (n := 32) (by omega) (by omega)
            have hx : bits .xor .u32 ((v : Int) / 2) 2197175160 = (((v / 2) ^^^ 2197175160 : Nat) : Int) := bits_xor_u32_nat (v / 2) 2197175160 (by omega) (by omega)
            generalize (v / 2) ^^^ 2197175160 = z2 at *
            have ha : ((v : Int).tmod 2) = 1 := by rw [Int.tmod_eq_emod_of_nonneg (by omega)]; omega
            have ha' : ((v : Int) % 2) = 1 := by omega
            clear hp
            go_wp2
            go_round
            case rel => exact ⟨n + 1, z2, by omega, by go_num, rfl, hlt2, Lib.hid (by rw [HM.out, ← HC.out]; exact HV2.out)⟩
            case measure => simp [intOf]; omega
          · have HC := Lib.hid (show crcBit v = v / 2 from if_neg hp)
            have ha : ((v : Int).tmod 2) = 0 := by rw [Int.tmod_eq_emod_of_nonneg (by omega)]; omega
            have ha' : ((v : Int) % 2) = 0 := by omega
            clear hp
            go_wp2
            go_round
            case rel => exact ⟨n + 1, v / 2, by omega, by go_num, rfl, by omega, Lib.hid (by rw [HM.out, ← HC.out]; exact HV2.out)⟩
            case measure => simp [intOf]; omega
        · obtain rfl : n = 8 := by omega
          go_wp2
          go_round
          case rel => exact ⟨k + 1, v, by omega, by go_num, rfl, hv, Lib.hid (by rw [HTK.out, ← HV.out]; rfl)⟩
          case measure => simp [intOf]; omega
    · obtain rfl : k = l.length := by omega
      have HY' := Lib.hid (show y = crcFrom 4294967295 l by have := HY.out; rwa [List.take_length] at this)
      have HE := Lib.hid (show 4294967295 - y = crc l by have := HY'.out; unfold crc; rw [← this])
      have hn := bits_not_u32 y hy
      clear HY
      go_wp2
      go_ret
      exact ⟨by rw [← HE.out]; rfl, rfl⟩
end Go.Proofs.YtkpickojeghppaaDoor
namespace Go.Proofs.YtkpickojeghppaaDoor
open Go.RowKit
theorem bytTy : SlTy Tryd.prog 28 5 (.int .u8 0) 1 1 := ⟨by kernel_rfl, by kernel_rfl, by kernel_rfl, by decide⟩
/-- the slice v, of a block of its own, holds the bytes l -/
def BSlab (w : World) (v : Value) (l : List UInt8) : Prop := Slab w 1 v l.length (bytesV l)
theorem bslab_nil (w : World) : BSlab w (.slice none 0 0) [] := slab_nil w 1
theorem bytesV_append (a b : List UInt8) : bytesV (a ++ b) = bytesV a ++ bytesV b := by simp [bytesV]
theorem BSlab.bytes {w : World} {v : Value} {l : List UInt8} (h : BSlab w v l) : ∃ A cap, v = .slice A l.length cap ∧ l.length ≤ cap ∧ cap ≤ maxLen ∧ BytesIn w A l := by
  obtain ⟨A, cap, hv, h1, h2, h3⟩ := Slab.form h
  refine ⟨A, cap, hv, h1, h2, ?_⟩
  rcases h3 with ⟨rfl, h, _⟩ | ⟨g, off, rfl, _, _, h, _⟩
  · exact .inl (List.eq_nil_of_length_eq_zero h)
  · exact .inr ⟨g, off, rfl, h⟩
theorem u8_of (n : Nat) : IntKind.u8.wrap (n : Int) = ((UInt8.ofNat n).toNat : Int) := by
  simp [IntKind.wrap, IntKind.bits, IntKind.signed]
/-- what an append of bytes comes to -/
def AppPost (v : Value) (w : World) (l : List UInt8) (e : Ending) (w' : World) : Prop := ∃ v', e = .returned v' ∧ BSlab w' v' l ∧ Upd w w' v.ownBlock v'.ownBlock
theorem app_post {w w1 w2 : World} {v v' : Value} {l m : List UInt8} {n : Nat} {xs : List Value} (hb : Below w.heap.size w w1) (h : Slab w2 1 v' n xs) (hn : n = (l ++ m).length) (hx : xs = bytesV (l ++ m)) (hu : Upd w1 w2 v.ownBlock v'.ownBlock) :
    BSlab w2 v' (l ++ m) ∧ Upd w w2 v.ownBlock v'.ownBlock := by
  subst hn
  subst hx
  refine ⟨h, (Upd.of_below hb _).trans hu⟩
theorem four_cells (n : Nat) (hn : n < 4294967296) : bytesV (four n) = [.int .u8 ((n : Int) % 256), .int .u8 ((n : Int) / 256 % 256), .int .u8 ((n : Int) / 65536 % 256), .int .u8 ((n : Int) / 16777216)] := by
  simp [bytesV, four]
  omega
theorem src_four {w : World} (n : Nat) (hn : n < 4294967296) (T : TypeId) (hT : Tryd.prog.underlying T = some (.slice 5)) :
    Src Tryd.prog 1 T (.slice (some ⟨w.heap.size, 0, none⟩) 4 4) 4 (bytesV (four n)) (w.alloc (.cells #[.int .u8 ((n : Int) % 256), .int .u8 ((n : Int) / 256 % 256), .int .u8 ((n : Int) / 65536 % 256), .int .u8 ((n : Int) / 16777216)] 5)) :=
  Src.ofSlice _ hT _ _ _ _ rfl (by rw [four_cells n hn]; exact World.news_of_block (heap_alloc_new w _)) (by rw [four_cells n hn]; simp [Value.oneCell'])
set_option maxRecDepth 20000 in
set_option maxHeartbeats 2000000 in
theorem refFour_c (v : Value) (l : List UInt8) (n : Nat) (hn : n < 4294967296) (hl : l.length ≤ 1099511627776) (w : World) (h : BSlab w v l) :
    Calls Tryd.prog 50 #[v, .int .u32 (n : Int)] w (AppPost v w (l ++ four n)) := by
  have H := Lib.hid h
  have hsrc := Lib.hid (src_four (w := w) n hn 28 bytTy.slice)
  have hb : Below w.heap.size w (w.alloc (.cells #[.int .u8 ((n : Int) % 256), .int .u8 ((n : Int) / 256 % 256), .int .u8 ((n : Int) / 65536 % 256), .int .u8 ((n : Int) / 16777216)] 5)) := (Below.refl _ _).alloc (Nat.le_refl _) _
  have HB := Lib.hid hb
  clear h hb
  go_enter Tryd.func50, Tryd.ntmps50
  go_wp2_with (at_builtin; refine wpList_slab bytTy 28 (by rfl) _ _ (by rfl) v l.length (bytesV l) (by rfl) (Slab.below H.out HB.out) _ (by rfl) 4 (bytesV (four n)) hsrc.out (by unfold maxLen; omega) (by omega) ?_; intro v' w1 hs1 hu1; have HS := Lib.hid (And.intro hs1 hu1); clear hs1 hu1)
  go_ret
  refine ⟨v', rfl, ?_⟩
  exact app_post HB.out HS.out.1 (by rw [List.length_append, four_len]) (bytesV_append _ _).symm HS.out.2
/-- the bytes of numbers -/
def fours (ns : List Nat) : List UInt8 := ns.flatMap four
theorem fours_len (ns : List Nat) : (fours ns).length = 4 * ns.length := by
  induction ns with
  | nil => rfl
  | cons n r ih => simp only [fours, List.flatMap_cons, List.length_append, four_len, List.length_cons] at *; omega
theorem fours_take (ns : List Nat) (k : Nat) (h : k < ns.length) : fours (ns.take (k + 1)) = fours (ns.take k) ++ four ns[k] := by
  unfold fours; rw [List.take_succ_eq_append_getElem h, List.flatMap_append]; simp
def numsV (ns : List Nat) : List Value := ns.map fun (n : Nat) => Value.int .u32 (n : Int)
theorem Upd.keep {w w' : World} {r r' : Option Nat} (h : Upd w w' r r') {G o : Nat} {xs : List Value} (hr : w.rangeAt G o xs) (hG : G < w.heap.size) (hne : r ≠ some G) : w'.rangeAt G o xs := rangeAt_same hr (h.block hG hne)
set_option maxRecDepth 20000 in
set_option maxHeartbeats 4000000 in
theorem laid_c (v : Value) (l : List UInt8) (ns : List Nat) (hns : ∀ n ∈ ns, n < 4294967296) (hl : l.length ≤ 549755813888) (hnl : ns.length ≤ 1000) (G o c : Nat) (w : World) (h : BSlab w v l) (hr : w.rangeAt G o (numsV ns)) (hG : G < w.heap.size) (hne : v.ownBlock ≠ some G) :
    Calls Tryd.prog 48 #[v, .slice (some ⟨G, o, none⟩) ns.length c] w (AppPost v w (l ++ fours ns)) := by
  have H := Lib.hid h
  have HR := Lib.hid hr
  have HNE := Lib.hid hne
  have HNS := Lib.hid hns
  clear h hr hne hns
  go_enter Tryd.func48, Tryd.ntmps48
  go_wp2
  go_loopw [0, 6, 9] (fun b _ i wr => ∃ (k : Nat) (v' : Value), k ≤ ns.length ∧ i = .int .i64 k ∧ v' = b ∧ Hid (BSlab wr v' (l ++ fours (ns.take k))) ∧ Hid (Upd w wr v.ownBlock v'.ownBlock)) (fun _ _ i _ => ns.length - (intOf i).toNat)
  case atStart => exact ⟨0, v, Nat.zero_le _, rfl, rfl, Lib.hid (by simpa [fours] using H.out), Lib.hid (Upd.refl _ _)⟩
  case round =>
    obtain ⟨k, v', hk, rfl, rfl, HS, HU⟩ := hrel
    by_cases hlt : k < ns.length
    · have hc : wr.cell? ⟨G, o + k, none⟩ = some (.int .u32 (ns[k] : Int)) := by
        have := (HU.out.keep HR.out hG HNE.out) k (.int .u32 (ns[k] : Int)) (by simp [numsV, hlt])
        exact this
      have hn := HNS.out ns[k] (List.getElem_mem hlt)
      have HT := Lib.hid (fours_take ns k hlt)
      have hlen : (fours (ns.take k)).length ≤ 4000 := by rw [fours_len, List.length_take]; omega
      generalize ns[k] = n at *
      have hsrc := Lib.hid (src_four (w := wr) n hn 28 bytTy.slice)
      have hb : Below wr.heap.size wr (wr.alloc (.cells #[.int .u8 ((n : Int) % 256), .int .u8 ((n : Int) / 256 % 256), .int .u8 ((n : Int) / 65536 % 256), .int .u8 ((n : Int) / 16777216)] 5)) := (Below.refl _ _).alloc (Nat.le_refl _) _
      have HB := Lib.hid hb
      have hl4 : (l ++ fours (ns.take k)).length = l.length + (fours (ns.take k)).length := List.length_append
      clear hb
      generalize fours (ns.take k) = f at *
      go_wp2_with (at_builtin; refine wpList_slab bytTy 28 (by rfl) _ _ (by rfl) v' (l ++ f).length (bytesV (l ++ f)) (by rfl) (Slab.below HS.out HB.out) _ (by rfl) 4 (bytesV (four n)) hsrc.out (by unfold maxLen; omega) (by omega) ?_; intro v2 w1 hs1 hu1; have HS1 := Lib.hid (And.intro hs1 hu1); clear hs1 hu1)
      go_roundw
      case rel =>
        obtain ⟨h1, h2⟩ := app_post HB.out HS1.out.1 (by simp only [List.length_append, four_len]) (bytesV_append _ _).symm HS1.out.2
        exact ⟨k + 1, v2, by omega, by go_num, rfl, Lib.hid (by rw [HT.out, ← List.append_assoc]; exact h1), Lib.hid (HU.out.trans h2)⟩
      case measure => simp [intOf]; omega
    · obtain rfl : k = ns.length := by omega
      go_wp2
      go_ret
      refine ⟨_, rfl, ?_, HU.out⟩
      have := HS.out
      rwa [List.take_length] at this
theorem bits_or_u32_nat (a b : Nat) (ha : a < 4294967296) (hb : b < 4294967296) : bits .or .u32 (a : Int) (b : Int) = ((a ||| b : Nat) : Int) := by
  have hx : a ||| b < 2 ^ 32 := Nat.or_lt_two_pow (by omega) (by omega)
  have h1 : (BitVec.ofInt 32 (a : Int)).toNat = a := by
    rw [BitVec.ofInt_natCast, BitVec.toNat_ofNat]; exact Nat.mod_eq_of_lt (by omega)
  have h2 : (BitVec.ofInt 32 (b : Int)).toNat = b := by
    rw [BitVec.ofInt_natCast, BitVec.toNat_ofNat]; exact Nat.mod_eq_of_lt (by omega)
  show IntKind.u32.wrap ((BitVec.ofInt 32 (a : Int) ||| BitVec.ofInt 32 (b : Int)).toNat : Int) = _
  rw [BitVec.toNat_or, h1, h2, wrap_u32]
  omega
theorem or_shl (a b i : Nat) (h : a < 2 ^ i) : a ||| (b * 2 ^ i) = a + b * 2 ^ i := by
  rw [Nat.or_comm, ← Nat.shiftLeft_eq, ← Nat.shiftLeft_add_eq_or_of_lt h, Nat.add_comm]
theorem four_bits (a b c d : Nat) (ha : a < 256) (hb : b < 256) (hc : c < 256) (hd : d < 256) :
    bits .or .u32 (bits .or .u32 (bits .or .u32 (a : Int) ((b : Int) * 256)) ((c : Int) * 65536)) ((d : Int) * 16777216) = ((a + 256 * b + 65536 * c + 16777216 * d : Nat) : Int) := by
  have e1 : bits .or .u32 (a : Int) ((b : Int) * 256) = ((a + b * 256 : Nat) : Int) := by
    have := bits_or_u32_nat a (b * 256) (by omega) (by omega)
    rw [or_shl a b 8 (by omega)] at this
    exact this
  have e2 : bits .or .u32 ((a + b * 256 : Nat) : Int) ((c : Int) * 65536) = ((a + b * 256 + c * 65536 : Nat) : Int) := by
    have := bits_or_u32_nat (a + b * 256) (c * 65536) (by omega) (by omega)
    rw [or_shl _ c 16 (by omega)] at this
    exact this
  have e3 : bits .or .u32 ((a + b * 256 + c * 65536 : Nat) : Int) ((d : Int) * 16777216) = ((a + b * 256 + c * 65536 + d * 16777216 : Nat) : Int) := by
    have := bits_or_u32_nat (a + b * 256 + c * 65536) (d * 16777216) (by omega) (by omega)
    rw [or_shl _ d 24 (by omega)] at this
    exact this
  rw [e1, e2, e3]
  congr 1
  omega
theorem bt_get {l : List UInt8} {k : Nat} (h : k < l.length) : bt l k = (l[k]).toNat := by unfold bt; simp [h]
set_option maxRecDepth 20000 in
set_option maxHeartbeats 4000000 in
theorem number_c (G o c : Nat) (l : List UInt8) (k : Nat) (hk : k + 4 ≤ l.length) (hl : l.length ≤ 1099511627776) (w : World) (hr : w.rangeAt G o (bytesV l)) :
    Calls Tryd.prog 51 #[.slice (some ⟨G, o, none⟩) l.length c, .int .i64 (k : Int)] w fun e w' => e = .returned (.int .u32 (numb l k : Int)) ∧ ∃ m, w' = w.drewN m := by
  have c0 := range_byte hr k (by omega)
  have c1 := range_byte hr (k + 1) (by omega)
  have c2 := range_byte hr (k + 2) (by omega)
  have c3 := range_byte hr (k + 3) (by omega)
  have hb0 := (l[k]).toNat_lt
  have hb1 := (l[k + 1]).toNat_lt
  have hb2 := (l[k + 2]).toNat_lt
  have hb3 := (l[k + 3]).toNat_lt
  have w1 : IntKind.i64.wrap ((k : Int) + 1) = (k : Int) + 1 := IntWalk.i64_in _ (by omega)
  have w2 : IntKind.i64.wrap ((k : Int) + 2) = (k : Int) + 2 := IntWalk.i64_in _ (by omega)
  have w3 : IntKind.i64.wrap ((k : Int) + 3) = (k : Int) + 3 := IntWalk.i64_in _ (by omega)
  have n1 : ((k : Int) + 1).toNat = k + 1 := by omega
  have n2 : ((k : Int) + 2).toNat = k + 2 := by omega
  have n3 : ((k : Int) + 3).toNat = k + 3 := by omega
  have p1 : 0 ≤ (k : Int) + 1 := by omega
  have p2 : 0 ≤ (k : Int) + 2 := by omega
  have p3 : 0 ≤ (k : Int) + 3 := by omega
  have l0 : (k : Int) < (l.length : Int) := by omega
  have l1 : (k : Int) + 1 < (l.length : Int) := by omega
  have l2 : (k : Int) + 2 < (l.length : Int) := by omega
  have l3 : (k : Int) + 3 < (l.length : Int) := by omega
  have HN := Lib.hid (show numb l k = (l[k]).toNat + 256 * (l[k + 1]).toNat + 65536 * (l[k + 2]).toNat + 16777216 * (l[k + 3]).toNat by unfold numb; rw [bt_get (show k < l.length by omega), bt_get (show k + 1 < l.length by omega), bt_get (show k + 2 < l.length by omega), bt_get (show k + 3 < l.length by omega)])
  clear hr
  generalize l[k] = b0 at *
  generalize l[k + 1] = b1 at *
  generalize l[k + 2] = b2 at *
  generalize l[k + 3] = b3 at *
  go_enter Tryd.func51, Tryd.ntmps51
  go_wp2
  go_quiet (fail)
  go_wp2
  go_ret
  exact ⟨ret_int (by rw [HN.out]; exact four_bits _ _ _ _ hb0 hb1 hb2 hb3), nq, rfl⟩
set_option maxRecDepth 20000 in
set_option maxHeartbeats 4000000 in
theorem refNumber_c (G o c : Nat) (l : List UInt8) (hk : 4 ≤ l.length) (hl : l.length ≤ 1099511627776) (w : World) (hr : w.rangeAt G o (bytesV l)) :
    Calls Tryd.prog 53 #[.slice (some ⟨G, o, none⟩) l.length c] w fun e w' => e = .returned (.int .u32 (numb l 0 : Int)) ∧ ∃ m, w' = w.drewN m := by
  have c0 : w.cell? ⟨G, o, none⟩ = _ := range_byte hr 0 (by omega)
  have c1 := range_byte hr 1 (by omega)
  have c2 := range_byte hr 2 (by omega)
  have c3 := range_byte hr 3 (by omega)
  have hb0 := (l[0]).toNat_lt
  have hb1 := (l[1]).toNat_lt
  have hb2 := (l[2]).toNat_lt
  have hb3 := (l[3]).toNat_lt
  have l0 : (0 : Int) < (l.length : Int) := by omega
  have l1 : (1 : Int) < (l.length : Int) := by omega
  have l2 : (2 : Int) < (l.length : Int) := by omega
  have l3 : (3 : Int) < (l.length : Int) := by omega
  have HN := Lib.hid (show numb l 0 = (l[0]).toNat + 256 * (l[1]).toNat + 65536 * (l[2]).toNat + 16777216 * (l[3]).toNat by unfold numb; rw [bt_get (show 0 < l.length by omega), bt_get (show 0 + 1 < l.length by omega), bt_get (show 0 + 2 < l.length by omega), bt_get (show 0 + 3 < l.length by omega)])
  clear hr
  generalize l[0] = b0 at *
  generalize l[1] = b1 at *
  generalize l[2] = b2 at *
  generalize l[3] = b3 at *
  go_enter Tryd.func53, Tryd.ntmps53
  go_wp2
  go_quiet (fail)
  go_wp2
  go_ret
  exact ⟨ret_int (by rw [HN.out]; exact four_bits _ _ _ _ hb0 hb1 hb2 hb3), nq, rfl⟩
end Go.Proofs.YtkpickojeghppaaDoor
namespace Go.Proofs.YtkpickojeghppaaDoor
open Go.RowKit
/-- a message's five cells -/
def msgV (m : WMsg) : List Value := [.int .u32 (m.id : Int), .int .u32 (m.to : Int), .int .i64 m.kind, .string m.body, .bool m.sum]
def MsgOk (m : WMsg) : Prop := m.id < 4294967296 ∧ m.to < 4294967296 ∧ -9223372036854775808 ≤ m.kind ∧ m.kind ≤ 9223372036854775807 ∧ m.body.size ≤ 9223372036854770000
/-- what Pack answers -/
def PackPost (m : WMsg) (w : World) (e : Ending) (w' : World) : Prop :=
  ∃ v, e = .returned (.tuple #[v, .int .i64 (packE m : Int)]) ∧ BSlab w' v (packL m) ∧ Below w.heap.size w w' ∧ ∀ g, v.ownBlock = some g → w.heap.size ≤ g
theorem bslab_lit {w : World} {l : List UInt8} {cs : Array Value} (h : cs = (bytesV l).toArray) (hl : l.length ≤ maxLen) : BSlab (w.alloc (.cells cs 5)) (.slice (some ⟨w.heap.size, 0, none⟩) l.length l.length) l := by
  have hh := heap_alloc_new w (.cells cs 5)
  refine ⟨by simp [bytesV], .inr ⟨_, 0, _, rfl, Nat.le_refl _, hl, by simp, rangeAt_of_block hh (ys := []) (by rw [h]; simp), there_of_block hh ?_⟩⟩
  rw [h]; simp [bytesV]
theorem there_of_block2 {w : World} {g : Nat} {cs : Array Value} {E : TypeId} {n a b : Nat} (hh : w.heap[g]? = some (.cells cs E (a, b))) (h : n ≤ cs.size) (ha : n ≤ a) : w.there g 0 n := fun j hj => by
  refine ⟨?_, ?_⟩
  · simp only [World.cell?, hh, Nat.zero_add]
    rw [Array.getElem?_eq_getElem (by omega)]
    rfl
  · simp only [World.frozen?, hh, Nat.zero_add]
    simp
    omega
theorem rangeAt_of_block2 {w : World} {g : Nat} {cs : Array Value} {E : TypeId} {fr : Nat × Nat} {xs ys : List Value} (hh : w.heap[g]? = some (.cells cs E fr)) (h : cs.toList = xs ++ ys) : w.rangeAt g 0 xs := fun j v hj => by
  simp only [World.cell?, hh, Nat.zero_add]
  have : cs.toList[j]? = some v := by rw [h, List.getElem?_append_left (List.getElem?_eq_some_iff.1 hj).1]; exact hj
  simpa using this
def magicL : List UInt8 := [100, 107, 116, 49]
def magicB : Obj := .cells #[.int .u8 100, .int .u8 107, .int .u8 116, .int .u8 49] 5 (4, 5)
theorem magic_slab (w : World) : BSlab (w.alloc magicB) (.slice (some ⟨w.heap.size, 0, none⟩) 4 4) magicL := by
  have hh := heap_alloc_new w magicB
  exact ⟨by simp [bytesV, magicL], .inr ⟨_, 0, _, rfl, Nat.le_refl _, by unfold maxLen; omega, by simp, rangeAt_of_block2 hh (ys := []) (by simp [bytesV, magicL]), there_of_block2 hh (by simp) (by omega)⟩⟩
theorem conv_magic (w : World) (g : Nat) (hg : w.heap.size = g) : (convert 28 28 (.slice (some ⟨g, 0, none⟩) 4 4)).run Tryd.prog (w.alloc (.cells #[.int .u8 100, .int .u8 107, .int .u8 116, .int .u8 49] 5)) = .ok (.slice (some ⟨g, 0, none⟩) 4 4) (w.alloc magicB) := by
  subst hg
  exact Lib.run_convert_bytes_const (P := Tryd.prog) w 28 5 _ 4 4 Tryd.underlying28 Tryd.underlying5
theorem packA_eq (m : WMsg) : packA m = (magicL ++ fours [m.size, m.id, m.to, m.kind.toNat, if m.sum then 1 else 0]) ++ m.body.data.toList := by
  simp [packA, magicL, fours, List.append_assoc]
theorem byteCells_eq (s : ByteArray) : byteCells s = bytesV s.data.toList := rfl
theorem nums_block {w : World} {g : Nat} {cs : Array Value} {E : TypeId} {ns : List Nat} (hh : w.heap[g]? = some (.cells cs E (0, 0))) (h : cs.toList = numsV ns) : w.rangeAt g 0 (numsV ns) := rangeAt_of_block hh (ys := []) (by rw [h]; simp)
theorem nums_call (v : Value) (l : List UInt8) (ns : List Nat) (k : Nat) (hk : ns.length = k) (hns : ∀ n ∈ ns, n < 4294967296) (hl : l.length ≤ 549755813888) (hnl : ns.length ≤ 1000) (w0 : World) (cs : Array Value) (h : BSlab w0 v l) (hcs : cs.toList = numsV ns) (g : Nat) (hg : w0.heap.size = g) :
    Calls Tryd.prog 48 #[v, .slice (some ⟨g, 0, none⟩) k k] (w0.alloc (.cells cs 25)) (AppPost v (w0.alloc (.cells cs 25)) (l ++ fours ns)) := by
  subst hk
  subst hg
  refine laid_c v l ns hns hl hnl w0.heap.size 0 ns.length _ (Slab.below h ((Below.refl _ _).alloc (Nat.le_refl _) _)) (nums_block (heap_alloc_new w0 _) hcs) (by simp) (fun e => ?_)
  have := Slab.lt h e
  omega
theorem cellsOf5 {w : World} {B : Nat} {c0 c1 c2 c3 c4 : Value} {T : TypeId} (h : w.heap[B]? = some (.cells #[c0, c1, c2, c3, c4] T (0, 0))) :
    (w.cell? ⟨B, 0, none⟩ = some c0 ∧ w.cell? ⟨B, 1, none⟩ = some c1 ∧ w.cell? ⟨B, 2, none⟩ = some c2 ∧ w.cell? ⟨B, 3, none⟩ = some c3 ∧ w.cell? ⟨B, 4, none⟩ = some c4) ∧
    (w.frozen? ⟨B, 0, none⟩ = false ∧ w.frozen? ⟨B, 1, none⟩ = false ∧ w.frozen? ⟨B, 2, none⟩ = false ∧ w.frozen? ⟨B, 3, none⟩ = false ∧ w.frozen? ⟨B, 4, none⟩ = false) :=
  ⟨⟨cell_of_row _ _ _ _ _ _ h, cell_of_row _ _ _ _ _ _ h, cell_of_row _ _ _ _ _ _ h, cell_of_row _ _ _ _ _ _ h, cell_of_row _ _ _ _ _ _ h⟩, ⟨frozen_of_row _ _ _ _ _ h, frozen_of_row _ _ _ _ _ h, frozen_of_row _ _ _ _ _ h, frozen_of_row _ _ _ _ _ h, frozen_of_row _ _ _ _ _ h⟩⟩
set_option maxRecDepth 20000 in
set_option maxHeartbeats 4000000 in
theorem pack_kind (id to : Nat) (kind : Int) (body : ByteArray) (sum : Bool) (hk : kind < 1 ∨ 6 < kind) (w : World) : Calls Tryd.prog 13 #[.agg #[.int .u32 (id : Int), .int .u32 (to : Int), .int .i64 kind, .string body, .bool sum]] w (PackPost ⟨id, to, kind, body, sum⟩ w) := by
  have HP := Lib.hid (show packE ⟨id, to, kind, body, sum⟩ = 281 ∧ packL ⟨id, to, kind, body, sum⟩ = [] by
    have : packE ⟨id, to, kind, body, sum⟩ = 281 := if_pos hk
    exact ⟨this, by unfold packL; rw [this]; rfl⟩)
  have HB := Lib.hid ((Below.refl w.heap.size w).alloc (Nat.le_refl _) (.cells #[.int .u32 (id : Int), .int .u32 (to : Int), .int .i64 kind, .string body, .bool sum] 27))
  have fin : ∀ (w' : World), w' = (w.alloc (.cells #[.int .u32 (id : Int), .int .u32 (to : Int), .int .i64 kind, .string body, .bool sum] 27)) → PackPost ⟨id, to, kind, body, sum⟩ w (.returned (.tuple #[.slice none 0 0, .int .i64 281])) w' := by
    rintro w' rfl
    exact ⟨_, by rw [HP.out.1]; rfl, by rw [HP.out.2]; exact bslab_nil _, HB.out, fun g hg => by cases hg⟩
  have FIN := Lib.hid fin
  clear fin
  rcases hk with hk | hk
  · go_enter Tryd.func13, Tryd.ntmps13
    go_wp2
    go_ret2
    exact FIN.out _ rfl
  · have hk' : ¬ kind < 1 := by omega
    go_enter Tryd.func13, Tryd.ntmps13
    go_wp2
    go_ret2
    exact FIN.out _ rfl
set_option maxRecDepth 20000 in
set_option maxHeartbeats 4000000 in
theorem pack_false (id to k : Nat) (h1 : id < 4294967296) (h2 : to < 4294967296) (hk0 : 1 ≤ k) (hk6 : k ≤ 6) (body : ByteArray) (hb : body.size ≤ 9223372036854770000) (w : World) : Calls Tryd.prog 13 #[.agg #[.int .u32 (id : Int), .int .u32 (to : Int), .int .i64 (k : Int), .string body, .bool false]] w (PackPost ⟨id, to, k, body, false⟩ w) := by
  have hk1 : ¬ (k : Int) < 1 := by omega
  have hk2 : ¬ 6 < (k : Int) := by omega
  have hsz : WMsg.size ⟨id, to, (k : Int), body, false⟩ = 24 + body.size := by unfold WMsg.size; simp <;> omega
  have HB := Lib.hid ((Below.refl w.heap.size w).alloc (Nat.le_refl _) (.cells #[.int .u32 (id : Int), .int .u32 (to : Int), .int .i64 (k : Int), .string body, .bool false] 27))
  by_cases hbig : 131072 < 24 + body.size
  · have HP := Lib.hid (show packE ⟨id, to, (k : Int), body, false⟩ = 1 ∧ packL ⟨id, to, (k : Int), body, false⟩ = [] by
      have : packE ⟨id, to, (k : Int), body, false⟩ = 1 := by unfold packE; rw [if_neg (by simp only; omega), if_pos (by rw [hsz]; exact hbig)]
      exact ⟨this, by unfold packL; rw [this]; rfl⟩)
    have hbI : (131072 : Int) < 24 + (body.size : Int) := by omega
    clear hsz
    go_enter Tryd.func13, Tryd.ntmps13
    go_wp2
    go_ret2
    exact ⟨_, by rw [HP.out.1]; rfl, by rw [HP.out.2]; exact bslab_nil _, HB.out, fun g hg => by cases hg⟩
  · have HE := Lib.hid (show packE ⟨id, to, (k : Int), body, false⟩ = 0 by unfold packE; rw [if_neg (by simp only; omega), if_neg (by rw [hsz]; exact hbig)])
    have HSZ := Lib.hid hsz
    have hbI : ¬ (131072 : Int) < 24 + (body.size : Int) := by omega
    have hlt : body.size ≤ 131072 := by omega
    have kc := conv_magic (w.alloc (.cells #[.int .u32 (id : Int), .int .u32 (to : Int), .int .i64 (k : Int), .string body, .bool false] 27)) (w.heap.size + 1) (by simp)
    have hcall := nums_call (.slice (some ⟨w.heap.size + 1, 0, none⟩) 4 4) magicL [24 + body.size, id, to, k, 0] 5 rfl (by simp; omega) (by decide) (by simp) ((w.alloc (.cells #[.int .u32 (id : Int), .int .u32 (to : Int), .int .i64 (k : Int), .string body, .bool false] 27)).alloc magicB) #[.int .u32 (24 + (body.size : Int)), .int .u32 (id : Int), .int .u32 (to : Int), .int .u32 (k : Int), .int .u32 0]
      (by have := magic_slab (w.alloc (.cells #[.int .u32 (id : Int), .int .u32 (to : Int), .int .i64 (k : Int), .string body, .bool false] 27)); rw [show ((w.alloc (.cells #[.int .u32 (id : Int), .int .u32 (to : Int), .int .i64 (k : Int), .string body, .bool false] 27))).heap.size = w.heap.size + 1 by simp] at this; exact this) (by simp [numsV] <;> omega) (w.heap.size + 1 + 1) (by simp)
    have HC := Lib.hid hcall
    have HEQ := Lib.hid (show packA ⟨id, to, (k : Int), body, false⟩ = (magicL ++ fours [24 + body.size, id, to, k, 0]) ++ body.data.toList by rw [packA_eq, hsz]; rfl)
    have hB3 : Below w.heap.size w (((w.alloc (.cells #[.int .u32 (id : Int), .int .u32 (to : Int), .int .i64 (k : Int), .string body, .bool false] 27)).alloc magicB).alloc (.cells #[.int .u32 (24 + (body.size : Int)), .int .u32 (id : Int), .int .u32 (to : Int), .int .u32 (k : Int), .int .u32 0] 25)) := ((HB.out.alloc (by simp) _).alloc (by simp; omega) _)
    have hblk : (((w.alloc (.cells #[.int .u32 (id : Int), .int .u32 (to : Int), .int .i64 (k : Int), .string body, .bool false] 27)).alloc magicB).alloc (.cells #[.int .u32 (24 + (body.size : Int)), .int .u32 (id : Int), .int .u32 (to : Int), .int .u32 (k : Int), .int .u32 0] 25)).heap[w.heap.size]? = some (.cells #[.int .u32 (id : Int), .int .u32 (to : Int), .int .i64 (k : Int), .string body, .bool false] 27) := by
      rw [heap_alloc_old _ _ (by simp; omega), heap_alloc_old _ _ (by simp)]; exact heap_alloc_new w _
    have HB3 := Lib.hid hB3
    have HBLK := Lib.hid hblk
    have hfl := fours_len [24 + body.size, id, to, k, 0]
    have HLEN := Lib.hid (show (magicL ++ fours [24 + body.size, id, to, k, 0]).length = 24 by rw [List.length_append, hfl]; rfl)
    clear hsz hbig hcall hB3 hblk hfl
    go_enter Tryd.func13, Tryd.ntmps13
    go_wp2_with fail
    refine HC.out.mono ?_; rintro e w4 ⟨v, rfl, hs, hu⟩
    generalize magicL ++ fours [24 + body.size, id, to, k, 0] = L at *
    have hl := HLEN.out
    have hne : ((.slice (some ⟨w.heap.size + 1, 0, none⟩) 4 4 : Value)).ownBlock ≠ some w.heap.size := by simp [Value.ownBlock]
    have hblk4 := (hu.block (k := w.heap.size) (by simp; omega) hne).trans HBLK.out
    have HB4 := Lib.hid (HB3.out.trans (hu.below (B := w.heap.size) (by simp; omega) (fun g hg => by simp [Value.ownBlock] at hg; omega)))
    have hvn : ∀ g, v.ownBlock = some g → w.heap.size < g := fun g hg => by
      rcases hu.own with h | ⟨q, h, hq⟩
      · rw [h] at hg; simp [Value.ownBlock] at hg; omega
      · rw [h] at hg; have := Option.some.inj hg; simp at hq; omega
    have HVN := Lib.hid hvn
    have HS := Lib.hid hs
    obtain ⟨⟨_, _, _, c3, c4⟩, _⟩ := cellsOf5 hblk4
    have HBLK4 := Lib.hid hblk4
    clear hs hu hblk4 hvn kc hne HC HBLK HB3
    go_wp2_with (at_builtin; refine wpList_slab bytTy 9 (by rfl) _ _ (by rfl) v L.length (bytesV L) (by rfl) HS.out (.string body) (by rfl) body.size (byteCells body) (Src.ofString w4 Tryd.underlying9 body) (by unfold maxLen; omega) (by omega) ?_; intro v2 w5 hs5 hu5; have HS5 := Lib.hid (show BSlab w5 v2 (L ++ body.data.toList) by unfold BSlab; rw [bytesV_append, List.length_append]; exact hs5); have HU5 := Lib.hid hu5; clear hs5 hu5; have hblk5 := (HU5.out.block (k := w.heap.size) (cell_lt (p := ⟨w.heap.size, 3, none⟩) c3) (fun e => by have := HVN.out _ e; omega)).trans HBLK4.out; obtain ⟨⟨_, _, _, d3, d4⟩, _⟩ := cellsOf5 hblk5; clear hblk5)
    go_ret2
    refine ⟨v2, by rw [HE.out]; rfl, ?_, HB4.out.trans (HU5.out.below HB4.out.size (fun g hg => by have := HVN.out g hg; omega)), fun g hg => ?_⟩
    · rw [show packL ⟨id, to, (k : Int), body, false⟩ = packA ⟨id, to, (k : Int), body, false⟩ by unfold packL; rw [if_pos HE.out]; rfl, HEQ.out]; exact HS5.out
    · rcases HU5.out.own with h | ⟨q, h, hq⟩
      · rw [h] at hg; have := HVN.out g hg; omega
      · rw [h] at hg; have := Option.some.inj hg; have := HB4.out.size; omega
set_option maxRecDepth 20000 in
set_option maxHeartbeats 4000000 in
theorem pack_true (id to k : Nat) (h1 : id < 4294967296) (h2 : to < 4294967296) (hk0 : 1 ≤ k) (hk6 : k ≤ 6) (body : ByteArray) (hb : body.size ≤ 9223372036854770000) (w : World) : Calls Tryd.prog 13 #[.agg #[.int .u32 (id : Int), .int .u32 (to : Int), .int .i64 (k : Int), .string body, .bool true]] w (PackPost ⟨id, to, k, body, true⟩ w) := by
  have hk1 : ¬ (k : Int) < 1 := by omega
  have hk2 : ¬ 6 < (k : Int) := by omega
  have hsz : WMsg.size ⟨id, to, (k : Int), body, true⟩ = 28 + body.size := by unfold WMsg.size; simp <;> omega
  have HB := Lib.hid ((Below.refl w.heap.size w).alloc (Nat.le_refl _) (.cells #[.int .u32 (id : Int), .int .u32 (to : Int), .int .i64 (k : Int), .string body, .bool true] 27))
  by_cases hbig : 131072 < 28 + body.size
  · have HP := Lib.hid (show packE ⟨id, to, (k : Int), body, true⟩ = 1 ∧ packL ⟨id, to, (k : Int), body, true⟩ = [] by
      have : packE ⟨id, to, (k : Int), body, true⟩ = 1 := by unfold packE; rw [if_neg (by simp only; omega), if_pos (by rw [hsz]; exact hbig)]
      exact ⟨this, by unfold packL; rw [this]; rfl⟩)
    have hbI : (131072 : Int) < 24 + (body.size : Int) + 4 := by omega
    clear hsz
    go_enter Tryd.func13, Tryd.ntmps13
    go_wp2
    go_ret2
    exact ⟨_, by rw [HP.out.1]; rfl, by rw [HP.out.2]; exact bslab_nil _, HB.out, fun g hg => by cases hg⟩
  · have HE := Lib.hid (show packE ⟨id, to, (k : Int), body, true⟩ = 0 by unfold packE; rw [if_neg (by simp only; omega), if_neg (by rw [hsz]; exact hbig)])
    have HSZ := Lib.hid hsz
    have hbI : ¬ (131072 : Int) < 24 + (body.size : Int) + 4 := by omega
    have hlt : body.size ≤ 131072 := by omega
    have kc := conv_magic (w.alloc (.cells #[.int .u32 (id : Int), .int .u32 (to : Int), .int .i64 (k : Int), .string body, .bool true] 27)) (w.heap.size + 1) (by simp)
    have hcall := nums_call (.slice (some ⟨w.heap.size + 1, 0, none⟩) 4 4) magicL [28 + body.size, id, to, k, 1] 5 rfl (by simp; omega) (by decide) (by simp) ((w.alloc (.cells #[.int .u32 (id : Int), .int .u32 (to : Int), .int .i64 (k : Int), .string body, .bool true] 27)).alloc magicB) #[.int .u32 (24 + (body.size : Int) + 4), .int .u32 (id : Int), .int .u32 (to : Int), .int .u32 (k : Int), .int .u32 1]
      (by have := magic_slab (w.alloc (.cells #[.int .u32 (id : Int), .int .u32 (to : Int), .int .i64 (k : Int), .string body, .bool true] 27)); rw [show ((w.alloc (.cells #[.int .u32 (id : Int), .int .u32 (to : Int), .int .i64 (k : Int), .string body, .bool true] 27))).heap.size = w.heap.size + 1 by simp] at this; exact this) (by simp [numsV] <;> omega) (w.heap.size + 1 + 1) (by simp)
    have HC := Lib.hid hcall
    have HEQ := Lib.hid (show packA ⟨id, to, (k : Int), body, true⟩ = (magicL ++ fours [28 + body.size, id, to, k, 1]) ++ body.data.toList by rw [packA_eq, hsz]; rfl)
    have hB3 : Below w.heap.size w (((w.alloc (.cells #[.int .u32 (id : Int), .int .u32 (to : Int), .int .i64 (k : Int), .string body, .bool true] 27)).alloc magicB).alloc (.cells #[.int .u32 (24 + (body.size : Int) + 4), .int .u32 (id : Int), .int .u32 (to : Int), .int .u32 (k : Int), .int .u32 1] 25)) := ((HB.out.alloc (by simp) _).alloc (by simp; omega) _)
    have hblk : (((w.alloc (.cells #[.int .u32 (id : Int), .int .u32 (to : Int), .int .i64 (k : Int), .string body, .bool true] 27)).alloc magicB).alloc (.cells #[.int .u32 (24 + (body.size : Int) + 4), .int .u32 (id : Int), .int .u32 (to : Int), .int .u32 (k : Int), .int .u32 1] 25)).heap[w.heap.size]? = some (.cells #[.int .u32 (id : Int), .int .u32 (to : Int), .int .i64 (k : Int), .string body, .bool true] 27) := by
      rw [heap_alloc_old _ _ (by simp; omega), heap_alloc_old _ _ (by simp)]; exact heap_alloc_new w _
    have HB3 := Lib.hid hB3
    have HBLK := Lib.hid hblk
    have hfl := fours_len [28 + body.size, id, to, k, 1]
    have HLEN := Lib.hid (show (magicL ++ fours [28 + body.size, id, to, k, 1]).length = 24 by rw [List.length_append, hfl]; rfl)
    clear hsz hbig hcall hB3 hblk hfl
    go_enter Tryd.func13, Tryd.ntmps13
    go_wp2_with fail
    refine HC.out.mono ?_; rintro e w4 ⟨v, rfl, hs, hu⟩
    generalize magicL ++ fours [28 + body.size, id, to, k, 1] = L at *
    have hl := HLEN.out
    have hne : ((.slice (some ⟨w.heap.size + 1, 0, none⟩) 4 4 : Value)).ownBlock ≠ some w.heap.size := by simp [Value.ownBlock]
    have hblk4 := (hu.block (k := w.heap.size) (by simp; omega) hne).trans HBLK.out
    have HB4 := Lib.hid (HB3.out.trans (hu.below (B := w.heap.size) (by simp; omega) (fun g hg => by simp [Value.ownBlock] at hg; omega)))
    have hvn : ∀ g, v.ownBlock = some g → w.heap.size < g := fun g hg => by
      rcases hu.own with h | ⟨q, h, hq⟩
      · rw [h] at hg; simp [Value.ownBlock] at hg; omega
      · rw [h] at hg; have := Option.some.inj hg; simp at hq; omega
    have HVN := Lib.hid hvn
    have HS := Lib.hid hs
    obtain ⟨⟨_, _, _, c3, c4⟩, _⟩ := cellsOf5 hblk4
    have HBLK4 := Lib.hid hblk4
    clear hs hu hblk4 hvn kc hne HC HBLK HB3
    go_wp2_with (at_builtin; refine wpList_slab bytTy 9 (by rfl) _ _ (by rfl) v L.length (bytesV L) (by rfl) HS.out (.string body) (by rfl) body.size (byteCells body) (Src.ofString w4 Tryd.underlying9 body) (by unfold maxLen; omega) (by omega) ?_; intro v2 w5 hs5 hu5; have HS5 := Lib.hid (show BSlab w5 v2 (L ++ body.data.toList) by unfold BSlab; rw [bytesV_append, List.length_append]; exact hs5); have HU5 := Lib.hid hu5; clear hs5 hu5; have hblk5 := (HU5.out.block (k := w.heap.size) (cell_lt (p := ⟨w.heap.size, 3, none⟩) c3) (fun e => by have := HVN.out _ e; omega)).trans HBLK4.out; obtain ⟨⟨_, _, _, d3, d4⟩, _⟩ := cellsOf5 hblk5; clear hblk5)
    obtain ⟨A, cap, rfl, hcap, hcm, hbi⟩ := HS5.out.bytes
    have hlb : (L ++ body.data.toList).length = 24 + body.size := by rw [List.length_append, hl]; rfl
    have hsum := sum_c A cap (L ++ body.data.toList) (by unfold maxLen; omega) w5 hbi
    have hcrc := crc_lt (L ++ body.data.toList)
    have HEQ' := Lib.hid (show packed ⟨id, to, (k : Int), body, true⟩ = (L ++ body.data.toList) ++ fours [crc (L ++ body.data.toList)] by unfold packed; rw [HEQ.out]; simp [fours])
    have HL2 := Lib.hid hlb
    clear HEQ hbi
    generalize L ++ body.data.toList = L2 at *
    have hcall2 := nums_call _ L2 [crc L2] 1 rfl (by simp; omega) (by omega) (by simp) w5 #[.int .u32 (crc L2 : Int)] HS5.out (by simp [numsV]) w5.heap.size rfl
    have HC2 := Lib.hid hcall2
    clear hcall2 hcrc c3 c4 hlb
    go_wp2_with fail
    refine hsum.mono ?_; rintro e w6 ⟨rfl, rfl⟩
    clear hsum
    go_wp2_with fail
    refine HC2.out.mono ?_; rintro e w7 ⟨v3, rfl, hs7, hu7⟩
    have HS7 := Lib.hid hs7
    have HU7 := Lib.hid ((Upd.of_below ((Below.refl w6.heap.size w6).alloc (Nat.le_refl _) _) _).trans hu7)
    clear hs7 hu7 d3 d4
    go_wp2
    go_ret2
    have hb5 := HB4.out.trans (HU5.out.below HB4.out.size (fun g hg => by have := HVN.out g hg; omega))
    have hv2 : ∀ g, (Value.slice A L2.length cap).ownBlock = some g → w.heap.size ≤ g := fun g hg => by
      rcases HU5.out.own with h | ⟨q, h, hq⟩
      · rw [h] at hg; have := HVN.out g hg; omega
      · rw [h] at hg; have := Option.some.inj hg; have := HB4.out.size; omega
    refine ⟨v3, by rw [HE.out]; rfl, ?_, hb5.trans (HU7.out.below hb5.size hv2), fun g hg => ?_⟩
    · rw [show packL ⟨id, to, (k : Int), body, true⟩ = packed ⟨id, to, (k : Int), body, true⟩ by unfold packL; rw [if_pos HE.out], HEQ'.out]; exact HS7.out
    · rcases HU7.out.own with h | ⟨q, h, hq⟩
      · rw [h] at hg; exact hv2 g hg
      · rw [h] at hg; have := Option.some.inj hg; have := hb5.size; omega
end Go.Proofs.YtkpickojeghppaaDoor
namespace Go.Proofs.YtkpickojeghppaaDoor
open Go.RowKit
theorem pack_c (m : WMsg) (hm : MsgOk m) (w : World) : Calls Tryd.prog 13 #[.agg (msgV m).toArray] w (PackPost m w) := by
  obtain ⟨id, to, kind, body, sum⟩ := m
  obtain ⟨h1, h2, h3, h4, h5⟩ := hm
  simp only at h1 h2 h3 h4 h5
  show Calls Tryd.prog 13 #[.agg #[.int .u32 (id : Int), .int .u32 (to : Int), .int .i64 kind, .string body, .bool sum]] w (PackPost ⟨id, to, kind, body, sum⟩ w)
  by_cases hk : kind < 1 ∨ 6 < kind
  · exact pack_kind id to kind body sum hk w
  · obtain ⟨k, rfl⟩ : ∃ k : Nat, kind = (k : Int) := ⟨kind.toNat, by omega⟩
    cases sum with
    | false => exact pack_false id to k h1 h2 (by omega) (by omega) body h5 w
    | true => exact pack_true id to k h1 h2 (by omega) (by omega) body h5 w
/-- while a message is laid down: the box, what has been laid -/
structure PkAt (w : World) (bx : Obj) (w1 : World) (v : Value) (L : List UInt8) : Prop where
  below : Below w.heap.size w w1
  blk : w1.heap[w.heap.size]? = some bx
  slab : BSlab w1 v L
  own : ∀ g, v.ownBlock = some g → w.heap.size < g
theorem PkAt.step {w : World} {bx : Obj} {w1 w2 : World} {v v' : Value} {L L' : List UInt8} (h : PkAt w bx w1 v L) (hs : BSlab w2 v' L') (hu : Upd w1 w2 v.ownBlock v'.ownBlock) : PkAt w bx w2 v' L' := by
  have hlt : w.heap.size < w1.heap.size := by
    rcases Nat.lt_or_ge w.heap.size w1.heap.size with h' | h'
    · exact h'
    · have := h.blk; rw [Array.getElem?_eq_none h'] at this; cases this
  refine ⟨h.below.trans (hu.below h.below.size (fun g hg => by have := h.own g hg; omega)), (hu.block hlt (fun e => by have := h.own _ e; omega)).trans h.blk, hs, fun g hg => ?_⟩
  rcases hu.own with e | ⟨q, e, hq⟩
  · rw [e] at hg; exact h.own g hg
  · rw [e] at hg; have := Option.some.inj hg; omega
theorem PkAt.same {w : World} {bx : Obj} {w1 : World} {v : Value} {L : List UInt8} (h : PkAt w bx w1 v L) {w2 : World} (hb : Below w1.heap.size w1 w2) : PkAt w bx w2 v L := by
  have hlt : w.heap.size < w1.heap.size := by
    rcases Nat.lt_or_ge w.heap.size w1.heap.size with h' | h'
    · exact h'
    · have := h.blk; rw [Array.getElem?_eq_none h'] at this; cases this
  exact ⟨below_trans h.below (hb.mono (by exact Nat.le_refl _)), (hb.block _ hlt).trans h.blk, Slab.below h.slab hb, h.own⟩
set_option maxHeartbeats 1000000 in
theorem refLong_c (id to kind : Value) (body : ByteArray) (sum : Bool) (hb : body.size ≤ 9223372036854770000) (w : World) : Calls Tryd.prog 49 #[.agg #[id, to, kind, .string body, .bool sum]] w fun e w' => e = .returned (.int .i64 (((if sum then 28 else 24) + body.size : Nat) : Int)) ∧ Below w.heap.size w w' := by
  cases sum with
  | false =>
    go_enter Tryd.func49, Tryd.ntmps49
    go_wp2
    go_ret
    exact ⟨rfl, (Below.refl _ _).alloc (Nat.le_refl _) _⟩
  | true =>
    go_enter Tryd.func49, Tryd.ntmps49
    go_wp2
    go_ret
    exact ⟨rfl, (Below.refl _ _).alloc (Nat.le_refl _) _⟩
set_option maxRecDepth 20000 in
set_option maxHeartbeats 4000000 in
theorem refPack_kind (id to : Nat) (kind : Int) (body : ByteArray) (sum : Bool) (hk : kind < 1 ∨ 6 < kind) (w : World) : Calls Tryd.prog 14 #[.agg #[.int .u32 (id : Int), .int .u32 (to : Int), .int .i64 kind, .string body, .bool sum]] w (PackPost ⟨id, to, kind, body, sum⟩ w) := by
  have HP := Lib.hid (show packE ⟨id, to, kind, body, sum⟩ = 281 ∧ packL ⟨id, to, kind, body, sum⟩ = [] by
    have : packE ⟨id, to, kind, body, sum⟩ = 281 := if_pos hk
    exact ⟨this, by unfold packL; rw [this]; rfl⟩)
  have HB := Lib.hid ((Below.refl w.heap.size w).alloc (Nat.le_refl _) (.cells #[.int .u32 (id : Int), .int .u32 (to : Int), .int .i64 kind, .string body, .bool sum] 27))
  have fin : ∀ (w' : World), w' = (w.alloc (.cells #[.int .u32 (id : Int), .int .u32 (to : Int), .int .i64 kind, .string body, .bool sum] 27)) → PackPost ⟨id, to, kind, body, sum⟩ w (.returned (.tuple #[.slice none 0 0, .int .i64 281])) w' := by
    rintro w' rfl
    exact ⟨_, by rw [HP.out.1]; rfl, by rw [HP.out.2]; exact bslab_nil _, HB.out, fun g hg => by cases hg⟩
  have FIN := Lib.hid fin
  clear fin
  rcases hk with hk | hk
  · go_enter Tryd.func14, Tryd.ntmps14
    go_wp2
    go_ret2
    exact FIN.out _ rfl
  · have hk' : ¬ kind < 1 := by omega
    go_enter Tryd.func14, Tryd.ntmps14
    go_wp2
    go_ret2
    exact FIN.out _ rfl
set_option maxRecDepth 20000 in
set_option maxHeartbeats 8000000 in
theorem refPack_false (id to k : Nat) (h1 : id < 4294967296) (h2 : to < 4294967296) (hk0 : 1 ≤ k) (hk6 : k ≤ 6) (body : ByteArray) (hb : body.size ≤ 9223372036854770000) (w : World) : Calls Tryd.prog 14 #[.agg #[.int .u32 (id : Int), .int .u32 (to : Int), .int .i64 (k : Int), .string body, .bool false]] w (PackPost ⟨id, to, k, body, false⟩ w) := by
  have hk1 : ¬ (k : Int) < 1 := by omega
  have hk2 : ¬ 6 < (k : Int) := by omega
  have hsz : WMsg.size ⟨id, to, (k : Int), body, false⟩ = 24 + body.size := by unfold WMsg.size; simp <;> omega
  have hbx : Below w.heap.size w (w.alloc (.cells #[.int .u32 (id : Int), .int .u32 (to : Int), .int .i64 (k : Int), .string body, .bool false] 27)) := (Below.refl w.heap.size w).alloc (Nat.le_refl _) (.cells #[.int .u32 (id : Int), .int .u32 (to : Int), .int .i64 (k : Int), .string body, .bool false] 27)
  have hblk := heap_alloc_new w (.cells #[.int .u32 (id : Int), .int .u32 (to : Int), .int .i64 (k : Int), .string body, .bool false] 27)
  have HB := Lib.hid (And.intro hbx hblk)
  obtain ⟨⟨b0, b1, b2, b3, b4⟩, _⟩ := cellsOf5 hblk
  clear hbx hblk
  have hlong := refLong_c (.int .u32 (id : Int)) (.int .u32 (to : Int)) (.int .i64 (k : Int)) body false hb (w.alloc (.cells #[.int .u32 (id : Int), .int .u32 (to : Int), .int .i64 (k : Int), .string body, .bool false] 27))
  simp only [Bool.false_eq_true, if_false] at hlong
  by_cases hbig : 131072 < 24 + body.size
  · have HP := Lib.hid (show packE ⟨id, to, (k : Int), body, false⟩ = 1 ∧ packL ⟨id, to, (k : Int), body, false⟩ = [] by
      have : packE ⟨id, to, (k : Int), body, false⟩ = 1 := by unfold packE; rw [if_neg (by simp only; omega), if_pos (by rw [hsz]; exact hbig)]
      exact ⟨this, by unfold packL; rw [this]; rfl⟩)
    obtain ⟨z, hz⟩ : ∃ z, 24 + body.size = z := ⟨_, rfl⟩
    rw [hz] at hlong hbig
    have hbI : (131072 : Int) < (z : Int) := by omega
    clear hsz hz
    go_enter Tryd.func14, Tryd.ntmps14
    go_wp2_with fail
    refine hlong.mono ?_; rintro e w1 ⟨rfl, hb1⟩
    have HB1 := Lib.hid hb1
    clear hb1 hlong
    go_wp2
    go_ret2
    exact ⟨_, by rw [HP.out.1]; rfl, by rw [HP.out.2]; exact bslab_nil _, below_trans HB.out.1 HB1.out, fun g hg => by cases hg⟩
  · have HE := Lib.hid (show packE ⟨id, to, (k : Int), body, false⟩ = 0 by unfold packE; rw [if_neg (by simp only; omega), if_neg (by rw [hsz]; exact hbig)])
    have hlt : body.size ≤ 131072 := by omega
    obtain ⟨z, hz⟩ : ∃ z, 24 + body.size = z := ⟨_, rfl⟩
    rw [hz] at hlong hbig hsz
    have HEQ := Lib.hid (show packA ⟨id, to, (k : Int), body, false⟩ = ((((((magicL ++ four z) ++ four id) ++ four to) ++ four k) ++ four 0) ++ body.data.toList) by rw [packA_eq, hsz]; simp [fours])
    have hbI : ¬ (131072 : Int) < (z : Int) := by omega
    have hz4 : z < 4294967296 := by omega
    clear hsz hz
    go_enter Tryd.func14, Tryd.ntmps14
    go_wp2_with fail
    refine hlong.mono ?_; rintro e w1 ⟨rfl, hb1⟩
    have kc := conv_magic w1 w1.heap.size rfl
    have hp1 : PkAt w (.cells #[.int .u32 (id : Int), .int .u32 (to : Int), .int .i64 (k : Int), .string body, .bool false] 27) (w1.alloc magicB) (.slice (some ⟨w1.heap.size, 0, none⟩) 4 4) magicL :=
      ⟨below_trans (below_trans HB.out.1 hb1) ((Below.refl _ _).alloc (Nat.le_refl _) _), by rw [heap_alloc_old _ _ (Nat.lt_of_lt_of_le (by simp) hb1.size)]; exact (hb1.block _ (by simp)).trans HB.out.2, magic_slab w1, fun g hg => by have := hb1.size; simp [Value.ownBlock] at hg this; omega⟩
    have HP1 := Lib.hid hp1
    obtain ⟨⟨d0, d1, d2, d3, d4⟩, _⟩ := cellsOf5 ((hb1.block w.heap.size (by simp)).trans HB.out.2)
    have hml : magicL.length = 4 := rfl
    obtain ⟨L1, hL1⟩ : ∃ L, magicL = L := ⟨_, rfl⟩
    rw [hL1] at HP1 HEQ hml
    clear hb1 hlong hp1 b0 b1 b2 b3 b4 HB hL1
    obtain ⟨⟨b0, b1, b2, b3, b4⟩, _⟩ := cellsOf5 HP1.out.blk
    have hcall := refFour_c _ L1 z hz4 (by omega) _ HP1.out.slab
    go_wp2_with fail
    refine hcall.mono ?_; rintro e w2 ⟨v2, rfl, hs, hu⟩
    have HP2 := Lib.hid (HP1.out.step hs hu)
    clear hs hu hcall b0 b1 b2 b3 b4 d0 d1 d2 d3 d4 HP1 kc
    have hml2 : (L1 ++ four z).length = 8 := by rw [List.length_append, four_len, hml]
    obtain ⟨L2, hL2⟩ : ∃ L, L1 ++ four z = L := ⟨_, rfl⟩
    rw [hL2] at HP2 HEQ hml2
    clear hL2 hml
    obtain ⟨⟨b0, b1, b2, b3, b4⟩, _⟩ := cellsOf5 HP2.out.blk
    have hcall := refFour_c _ L2 id h1 (by omega) _ HP2.out.slab
    go_wp2_with fail
    refine hcall.mono ?_; rintro e w3 ⟨v3, rfl, hs, hu⟩
    have HP3 := Lib.hid (HP2.out.step hs hu)
    clear hs hu hcall b0 b1 b2 b3 b4 HP2
    have hml3 : (L2 ++ four id).length = 12 := by rw [List.length_append, four_len, hml2]
    obtain ⟨L3, hL3⟩ : ∃ L, L2 ++ four id = L := ⟨_, rfl⟩
    rw [hL3] at HP3 HEQ hml3
    clear hL3 hml2
    obtain ⟨⟨b0, b1, b2, b3, b4⟩, _⟩ := cellsOf5 HP3.out.blk
    have hcall := refFour_c _ L3 to h2 (by omega) _ HP3.out.slab
    go_wp2_with fail
    refine hcall.mono ?_; rintro e w4 ⟨v4, rfl, hs, hu⟩
    have HP4 := Lib.hid (HP3.out.step hs hu)
    clear hs hu hcall b0 b1 b2 b3 b4 HP3
    have hml4 : (L3 ++ four to).length = 16 := by rw [List.length_append, four_len, hml3]
    obtain ⟨L4, hL4⟩ : ∃ L, L3 ++ four to = L := ⟨_, rfl⟩
    rw [hL4] at HP4 HEQ hml4
    clear hL4 hml3
    obtain ⟨⟨b0, b1, b2, b3, b4⟩, _⟩ := cellsOf5 HP4.out.blk
    have hcall := refFour_c _ L4 k (by omega) (by omega) _ HP4.out.slab
    go_wp2_with fail
    refine hcall.mono ?_; rintro e w5 ⟨v5, rfl, hs, hu⟩
    have HP5 := Lib.hid (HP4.out.step hs hu)
    clear hs hu hcall b0 b1 b2 b3 b4 HP4
    have hml5 : (L4 ++ four k).length = 20 := by rw [List.length_append, four_len, hml4]
    obtain ⟨L5, hL5⟩ : ∃ L, L4 ++ four k = L := ⟨_, rfl⟩
    rw [hL5] at HP5 HEQ hml5
    clear hL5 hml4
    obtain ⟨⟨b0, b1, b2, b3, b4⟩, _⟩ := cellsOf5 HP5.out.blk
    have hcall := refFour_c _ L5 0 (by omega) (by omega) _ HP5.out.slab
    go_wp2_with fail
    refine hcall.mono ?_; rintro e w6 ⟨v6, rfl, hs, hu⟩
    have HP6 := Lib.hid (HP5.out.step hs hu)
    clear hs hu hcall b0 b1 b2 b3 b4 HP5
    have hml6 : (L5 ++ four 0).length = 24 := by rw [List.length_append, four_len, hml5]
    obtain ⟨L, hL⟩ : ∃ L, L5 ++ four 0 = L := ⟨_, rfl⟩
    rw [hL] at HP6 HEQ hml6
    clear hL hml5
    obtain ⟨⟨b0, b1, b2, b3, b4⟩, _⟩ := cellsOf5 HP6.out.blk
    go_wp2_with (at_builtin; refine wpList_slab bytTy 9 (by rfl) _ _ (by rfl) v6 L.length (bytesV L) (by rfl) HP6.out.slab (.string body) (by rfl) body.size (byteCells body) (Src.ofString w6 Tryd.underlying9 body) (by unfold maxLen; omega) (by omega) ?_; intro v7 w7 hs7 hu7; have HP7 := Lib.hid (HP6.out.step (v' := v7) (L' := L ++ body.data.toList) (show BSlab w7 v7 (L ++ body.data.toList) by unfold BSlab; rw [bytesV_append, List.length_append]; exact hs7) hu7); clear hs7 hu7 b0 b1 b2 b3 b4; obtain ⟨⟨b0, b1, b2, b3, b4⟩, _⟩ := cellsOf5 HP7.out.blk)
    go_ret2
    exact ⟨v7, by rw [HE.out]; rfl, by rw [show packL ⟨id, to, (k : Int), body, false⟩ = packA ⟨id, to, (k : Int), body, false⟩ by unfold packL; rw [if_pos HE.out]; rfl, HEQ.out]; exact HP7.out.slab, HP7.out.below, fun g hg => Nat.le_of_lt (HP7.out.own g hg)⟩
set_option maxRecDepth 20000 in
set_option maxHeartbeats 8000000 in
theorem refPack_true (id to k : Nat) (h1 : id < 4294967296) (h2 : to < 4294967296) (hk0 : 1 ≤ k) (hk6 : k ≤ 6) (body : ByteArray) (hb : body.size ≤ 9223372036854770000) (w : World) : Calls Tryd.prog 14 #[.agg #[.int .u32 (id : Int), .int .u32 (to : Int), .int .i64 (k : Int), .string body, .bool true]] w (PackPost ⟨id, to, k, body, true⟩ w) := by
  have hk1 : ¬ (k : Int) < 1 := by omega
  have hk2 : ¬ 6 < (k : Int) := by omega
  have hsz : WMsg.size ⟨id, to, (k : Int), body, true⟩ = 28 + body.size := by unfold WMsg.size; simp <;> omega
  have hbx : Below w.heap.size w (w.alloc (.cells #[.int .u32 (id : Int), .int .u32 (to : Int), .int .i64 (k : Int), .string body, .bool true] 27)) := (Below.refl w.heap.size w).alloc (Nat.le_refl _) (.cells #[.int .u32 (id : Int), .int .u32 (to : Int), .int .i64 (k : Int), .string body, .bool true] 27)
  have hblk := heap_alloc_new w (.cells #[.int .u32 (id : Int), .int .u32 (to : Int), .int .i64 (k : Int), .string body, .bool true] 27)
  have HB := Lib.hid (And.intro hbx hblk)
  obtain ⟨⟨b0, b1, b2, b3, b4⟩, _⟩ := cellsOf5 hblk
  clear hbx hblk
  have hlong := refLong_c (.int .u32 (id : Int)) (.int .u32 (to : Int)) (.int .i64 (k : Int)) body true hb (w.alloc (.cells #[.int .u32 (id : Int), .int .u32 (to : Int), .int .i64 (k : Int), .string body, .bool true] 27))
  simp only [if_true] at hlong
  by_cases hbig : 131072 < 28 + body.size
  · have HP := Lib.hid (show packE ⟨id, to, (k : Int), body, true⟩ = 1 ∧ packL ⟨id, to, (k : Int), body, true⟩ = [] by
      have : packE ⟨id, to, (k : Int), body, true⟩ = 1 := by unfold packE; rw [if_neg (by simp only; omega), if_pos (by rw [hsz]; exact hbig)]
      exact ⟨this, by unfold packL; rw [this]; rfl⟩)
    obtain ⟨z, hz⟩ : ∃ z, 28 + body.size = z := ⟨_, rfl⟩
    rw [hz] at hlong hbig
    have hbI : (131072 : Int) < (z : Int) := by omega
    clear hsz hz
    go_enter Tryd.func14, Tryd.ntmps14
    go_wp2_with fail
    refine hlong.mono ?_; rintro e w1 ⟨rfl, hb1⟩
    have HB1 := Lib.hid hb1
    clear hb1 hlong
    go_wp2
    go_ret2
    exact ⟨_, by rw [HP.out.1]; rfl, by rw [HP.out.2]; exact bslab_nil _, below_trans HB.out.1 HB1.out, fun g hg => by cases hg⟩
  · have HE := Lib.hid (show packE ⟨id, to, (k : Int), body, true⟩ = 0 by unfold packE; rw [if_neg (by simp only; omega), if_neg (by rw [hsz]; exact hbig)])
    have hlt : body.size ≤ 131072 := by omega
    obtain ⟨z, hz⟩ : ∃ z, 28 + body.size = z := ⟨_, rfl⟩
    rw [hz] at hlong hbig hsz
    have HEQ := Lib.hid (show packA ⟨id, to, (k : Int), body, true⟩ = ((((((magicL ++ four z) ++ four id) ++ four to) ++ four k) ++ four 1) ++ body.data.toList) by rw [packA_eq, hsz]; simp [fours])
    have hbI : ¬ (131072 : Int) < (z : Int) := by omega
    have hz4 : z < 4294967296 := by omega
    clear hsz hz
    go_enter Tryd.func14, Tryd.ntmps14
    go_wp2_with fail
    refine hlong.mono ?_; rintro e w1 ⟨rfl, hb1⟩
    have kc := conv_magic w1 w1.heap.size rfl
    have hp1 : PkAt w (.cells #[.int .u32 (id : Int), .int .u32 (to : Int), .int .i64 (k : Int), .string body, .bool true] 27) (w1.alloc magicB) (.slice (some ⟨w1.heap.size, 0, none⟩) 4 4) magicL :=
      ⟨below_trans (below_trans HB.out.1 hb1) ((Below.refl _ _).alloc (Nat.le_refl _) _), by rw [heap_alloc_old _ _ (Nat.lt_of_lt_of_le (by simp) hb1.size)]; exact (hb1.block _ (by simp)).trans HB.out.2, magic_slab w1, fun g hg => by have := hb1.size; simp [Value.ownBlock] at hg this; omega⟩
    have HP1 := Lib.hid hp1
    obtain ⟨⟨d0, d1, d2, d3, d4⟩, _⟩ := cellsOf5 ((hb1.block w.heap.size (by simp)).trans HB.out.2)
    have hml : magicL.length = 4 := rfl
    obtain ⟨L1, hL1⟩ : ∃ L, magicL = L := ⟨_, rfl⟩
    rw [hL1] at HP1 HEQ hml
    clear hb1 hlong hp1 b0 b1 b2 b3 b4 HB hL1
    obtain ⟨⟨b0, b1, b2, b3, b4⟩, _⟩ := cellsOf5 HP1.out.blk
    have hcall := refFour_c _ L1 z hz4 (by omega) _ HP1.out.slab
    go_wp2_with fail
    refine hcall.mono ?_; rintro e w2 ⟨v2, rfl, hs, hu⟩
    have HP2 := Lib.hid (HP1.out.step hs hu)
    clear hs hu hcall b0 b1 b2 b3 b4 d0 d1 d2 d3 d4 HP1 kc
    have hml2 : (L1 ++ four z).length = 8 := by rw [List.length_append, four_len, hml]
    obtain ⟨L2, hL2⟩ : ∃ L, L1 ++ four z = L := ⟨_, rfl⟩
    rw [hL2] at HP2 HEQ hml2
    clear hL2 hml
    obtain ⟨⟨b0, b1, b2, b3, b4⟩, _⟩ := cellsOf5 HP2.out.blk
    have hcall := refFour_c _ L2 id h1 (by omega) _ HP2.out.slab
    go_wp2_with fail
    refine hcall.mono ?_; rintro e w3 ⟨v3, rfl, hs, hu⟩
    have HP3 := Lib.hid (HP2.out.step hs hu)
    clear hs hu hcall b0 b1 b2 b3 b4 HP2
    have hml3 : (L2 ++ four id).length = 12 := by rw [List.length_append, four_len, hml2]
    obtain ⟨L3, hL3⟩ : ∃ L, L2 ++ four id = L := ⟨_, rfl⟩
    rw [hL3] at HP3 HEQ hml3
    clear hL3 hml2
    obtain ⟨⟨b0, b1, b2, b3, b4⟩, _⟩ := cellsOf5 HP3.out.blk
    have hcall := refFour_c _ L3 to h2 (by omega) _ HP3.out.slab
    go_wp2_with fail
    refine hcall.mono ?_; rintro e w4 ⟨v4, rfl, hs, hu⟩
    have HP4 := Lib.hid (HP3.out.step hs hu)
    clear hs hu hcall b0 b1 b2 b3 b4 HP3
    have hml4 : (L3 ++ four to).length = 16 := by rw [List.length_append, four_len, hml3]
    obtain ⟨L4, hL4⟩ : ∃ L, L3 ++ four to = L := ⟨_, rfl⟩
    rw [hL4] at HP4 HEQ hml4
    clear hL4 hml3
    obtain ⟨⟨b0, b1, b2, b3, b4⟩, _⟩ := cellsOf5 HP4.out.blk
    have hcall := refFour_c _ L4 k (by omega) (by omega) _ HP4.out.slab
    go_wp2_with fail
    refine hcall.mono ?_; rintro e w5 ⟨v5, rfl, hs, hu⟩
    have HP5 := Lib.hid (HP4.out.step hs hu)
    clear hs hu hcall b0 b1 b2 b3 b4 HP4
    have hml5 : (L4 ++ four k).length = 20 := by rw [List.length_append, four_len, hml4]
    obtain ⟨L5, hL5⟩ : ∃ L, L4 ++ four k = L := ⟨_, rfl⟩
    rw [hL5] at HP5 HEQ hml5
    clear hL5 hml4
    obtain ⟨⟨b0, b1, b2, b3, b4⟩, _⟩ := cellsOf5 HP5.out.blk
    have hcall := refFour_c _ L5 1 (by omega) (by omega) _ HP5.out.slab
    go_wp2_with fail
    refine hcall.mono ?_; rintro e w6 ⟨v6, rfl, hs, hu⟩
    have HP6 := Lib.hid (HP5.out.step hs hu)
    clear hs hu hcall b0 b1 b2 b3 b4 HP5
    have hml6 : (L5 ++ four 1).length = 24 := by rw [List.length_append, four_len, hml5]
    obtain ⟨L, hL⟩ : ∃ L, L5 ++ four 1 = L := ⟨_, rfl⟩
    rw [hL] at HP6 HEQ hml6
    clear hL hml5
    obtain ⟨⟨b0, b1, b2, b3, b4⟩, _⟩ := cellsOf5 HP6.out.blk
    go_wp2_with (at_builtin; refine wpList_slab bytTy 9 (by rfl) _ _ (by rfl) v6 L.length (bytesV L) (by rfl) HP6.out.slab (.string body) (by rfl) body.size (byteCells body) (Src.ofString w6 Tryd.underlying9 body) (by unfold maxLen; omega) (by omega) ?_; intro v7 w7 hs7 hu7; have HP7 := Lib.hid (HP6.out.step (v' := v7) (L' := L ++ body.data.toList) (show BSlab w7 v7 (L ++ body.data.toList) by unfold BSlab; rw [bytesV_append, List.length_append]; exact hs7) hu7); clear hs7 hu7 b0 b1 b2 b3 b4; obtain ⟨⟨b0, b1, b2, b3, b4⟩, _⟩ := cellsOf5 HP7.out.blk)
    obtain ⟨A, cap, rfl, hcap, hcm, hbi⟩ := HP7.out.slab.bytes
    have hlb : (L ++ body.data.toList).length = 24 + body.size := by rw [List.length_append, hml6]; rfl
    have hsum := refSum_c A cap (L ++ body.data.toList) (by unfold maxLen; omega) w7 hbi
    have hcrc := crc_lt (L ++ body.data.toList)
    have HEQ' := Lib.hid (show packed ⟨id, to, (k : Int), body, true⟩ = (L ++ body.data.toList) ++ four (crc (L ++ body.data.toList)) by unfold packed; rw [HEQ.out]; rfl)
    clear HEQ hbi
    generalize L ++ body.data.toList = L9 at *
    have hcall2 := refFour_c _ L9 (crc L9) hcrc (by omega) w7 HP7.out.slab
    have HC2 := Lib.hid hcall2
    clear hcall2 hcrc hlb b0 b1 b2 b3 b4
    go_wp2_with fail
    refine hsum.mono ?_; rintro e w8 ⟨rfl, rfl⟩
    clear hsum
    go_wp2_with fail
    refine HC2.out.mono ?_; rintro e w9 ⟨v9, rfl, hs9, hu9⟩
    have HP9 := Lib.hid (HP7.out.step hs9 hu9)
    clear hs9 hu9 HP7
    go_wp2
    go_ret2
    exact ⟨v9, by rw [HE.out]; rfl, by rw [show packL ⟨id, to, (k : Int), body, true⟩ = packed ⟨id, to, (k : Int), body, true⟩ by unfold packL; rw [if_pos HE.out], HEQ'.out]; exact HP9.out.slab, HP9.out.below, fun g hg => Nat.le_of_lt (HP9.out.own g hg)⟩
theorem refPack_c (m : WMsg) (hm : MsgOk m) (w : World) : Calls Tryd.prog 14 #[.agg (msgV m).toArray] w (PackPost m w) := by
  obtain ⟨id, to, kind, body, sum⟩ := m
  obtain ⟨h1, h2, h3, h4, h5⟩ := hm
  simp only at h1 h2 h3 h4 h5
  show Calls Tryd.prog 14 #[.agg #[.int .u32 (id : Int), .int .u32 (to : Int), .int .i64 kind, .string body, .bool sum]] w (PackPost ⟨id, to, kind, body, sum⟩ w)
  by_cases hk : kind < 1 ∨ 6 < kind
  · exact refPack_kind id to kind body sum hk w
  · obtain ⟨k, rfl⟩ : ∃ k : Nat, kind = (k : Int) := ⟨kind.toNat, by omega⟩
    cases sum with
    | false => exact refPack_false id to k h1 h2 (by omega) (by omega) body h5 w
    | true => exact refPack_true id to k h1 h2 (by omega) (by omega) body h5 w
end Go.Proofs.YtkpickojeghppaaDoor
