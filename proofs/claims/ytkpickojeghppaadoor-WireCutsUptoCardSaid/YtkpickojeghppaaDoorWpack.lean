/- The walks of Pack, program and document. Conditions: none. -/
import Derived.Test.YtkpickojeghppaaDoorWnum
import Derived.Lib.SlBytesConst
namespace Go.Proofs.YtkpickojeghppaaDoor
open Go.RowKit
/-- a message's five cells -/
def msgV (m : WMsg) : List Value := [.int .u32 (m.id : Int), .int .u32 (m.to : Int), .int .i64 m.kind, .string m.body, .bool m.sum]
def MsgOk (m : WMsg) : Prop := m.id < 4294967296 ∧ m.to < 4294967296 ∧ -9223372036854775808 ≤ m.kind ∧ m.kind ≤ 9223372036854775807 ∧ m.body.size ≤ 9223372036854770000
/-- what Pack answers -/
def PackPost (m : WMsg) (w : World) (e : Ending) (w' : World) : Prop :=
  ∃ v, e = .returned (.tuple #[v, .int .i64 (packE m : Int)]) ∧ BSlab w' v (packL m) ∧ Below w.heap.size w w' ∧ ∀ g, v.ownBlock = some g → w.heap.size ≤ g
theorem bslab_lit {w : World} {l : List UInt8} {cs : Array Value} (h : cs = (bytesV l).toArray) (hl : l.length ≤ maxLen) : BSlab (w.alloc (.cells cs 5)) (.slice (some ⟨w.heap.size, 0, none⟩) l.length l.length) l := by
  have hh := heap_alloc_new w (.cells cs 5)
  refine ⟨by simp [bytesV], .inr ⟨_, 0, _, rfl, Nat.le_refl _, hl, by simp, rangeAt_of_block hh (ys := []) (by rw [h]; simp), there_of_block hh ?_⟩⟩
  rw [h]; simp [bytesV]
theorem there_of_block2 {w : World} {g : Nat} {cs : Array Value} {E : TypeId} {n a b : Nat} (hh : w.heap[g]? = some (.cells cs E (a, b))) (h : n ≤ cs.size) (ha : n ≤ a) : w.there g 0 n := fun j hj => by
  refine ⟨?_, ?_⟩
  · simp only [World.cell?, hh, Nat.zero_add]
    rw [Array.getElem?_eq_getElem (by omega)]
    rfl
  · simp only [World.frozen?, hh, Nat.zero_add]
    simp
    omega
theorem rangeAt_of_block2 {w : World} {g : Nat} {cs : Array Value} {E : TypeId} {fr : Nat × Nat} {xs ys : List Value} (hh : w.heap[g]? = some (.cells cs E fr)) (h : cs.toList = xs ++ ys) : w.rangeAt g 0 xs := fun j v hj => by
  simp only [World.cell?, hh, Nat.zero_add]
  have : cs.toList[j]? = some v := by rw [h, List.getElem?_append_left (List.getElem?_eq_some_iff.1 hj).1]; exact hj
  simpa using this
def magicL : List UInt8 := [100, 107, 116, 49]
def magicB : Obj := .cells #[.int .u8 100, .int .u8 107, .int .u8 116, .int .u8 49] 5 (4, 5)
theorem magic_slab (w : World) : BSlab (w.alloc magicB) (.slice (some ⟨w.heap.size, 0, none⟩) 4 4) magicL := by
  have hh := heap_alloc_new w magicB
  exact ⟨by simp [bytesV, magicL], .inr ⟨_, 0, _, rfl, Nat.le_refl _, by unfold maxLen; omega, by simp, rangeAt_of_block2 hh (ys := []) (by simp [bytesV, magicL]), there_of_block2 hh (by simp) (by omega)⟩⟩
theorem conv_magic (w : World) (g : Nat) (hg : w.heap.size = g) : (convert 28 28 (.slice (some ⟨g, 0, none⟩) 4 4)).run Tryd.prog (w.alloc (.cells #[.int .u8 100, .int .u8 107, .int .u8 116, .int .u8 49] 5)) = .ok (.slice (some ⟨g, 0, none⟩) 4 4) (w.alloc magicB) := by
  subst hg
  exact Lib.run_convert_bytes_const (P := Tryd.prog) w 28 5 _ 4 4 Tryd.underlying28 Tryd.underlying5
theorem packA_eq (m : WMsg) : packA m = (magicL ++ fours [m.size, m.id, m.to, m.kind.toNat, if m.sum then 1 else 0]) ++ m.body.data.toList := by
  simp [packA, magicL, fours, List.append_assoc]
theorem byteCells_eq (s : ByteArray) : byteCells s = bytesV s.data.toList := rfl
theorem nums_block {w : World} {g : Nat} {cs : Array Value} {E : TypeId} {ns : List Nat} (hh : w.heap[g]? = some (.cells cs E (0, 0))) (h : cs.toList = numsV ns) : w.rangeAt g 0 (numsV ns) := rangeAt_of_block hh (ys := []) (by rw [h]; simp)
theorem nums_call (v : Value) (l : List UInt8) (ns : List Nat) (k : Nat) (hk : ns.length = k) (hns : ∀ n ∈ ns, n < 4294967296) (hl : l.length ≤ 549755813888) (hnl : ns.length ≤ 1000) (w0 : World) (cs : Array Value) (h : BSlab w0 v l) (hcs : cs.toList = numsV ns) (g : Nat) (hg : w0.heap.size = g) :
    Calls Tryd.prog 48 #[v, .slice (some ⟨g, 0, none⟩) k k] (w0.alloc (.cells cs 25)) (AppPost v (w0.alloc (.cells cs 25)) (l ++ fours ns)) := by
  subst hk
  subst hg
  refine laid_c v l ns hns hl hnl w0.heap.size 0 ns.length _ (Slab.below h ((Below.refl _ _).alloc (Nat.le_refl _) _)) (nums_block (heap_alloc_new w0 _) hcs) (by simp) (fun e => ?_)
  have := Slab.lt h e
  omega
theorem cellsOf5 {w : World} {B : Nat} {c0 c1 c2 c3 c4 : Value} {T : TypeId} (h : w.heap[B]? = some (.cells #[c0, c1, c2, c3, c4] T (0, 0))) :
    (w.cell? ⟨B, 0, none⟩ = some c0 ∧ w.cell? ⟨B, 1, none⟩ = some c1 ∧ w.cell? ⟨B, 2, none⟩ = some c2 ∧ w.cell? ⟨B, 3, none⟩ = some c3 ∧ w.cell? ⟨B, 4, none⟩ = some c4) ∧
    (w.frozen? ⟨B, 0, none⟩ = false ∧ w.frozen? ⟨B, 1, none⟩ = false ∧ w.frozen? ⟨B, 2, none⟩ = false ∧ w.frozen? ⟨B, 3, none⟩ = false ∧ w.frozen? ⟨B, 4, none⟩ = false) :=
  ⟨⟨cell_of_row _ _ _ _ _ _ h, cell_of_row _ _ _ _ _ _ h, cell_of_row _ _ _ _ _ _ h, cell_of_row _ _ _ _ _ _ h, cell_of_row _ _ _ _ _ _ h⟩, ⟨frozen_of_row _ _ _ _ _ h, frozen_of_row _ _ _ _ _ h, frozen_of_row _ _ _ _ _ h, frozen_of_row _ _ _ _ _ h, frozen_of_row _ _ _ _ _ h⟩⟩
set_option maxRecDepth 20000 in
set_option maxHeartbeats 4000000 in
theorem pack_kind (id to : Nat) (kind : Int) (body : ByteArray) (sum : Bool) (hk : kind < 1 ∨ 6 < kind) (w : World) : Calls Tryd.prog 13 #[.agg #[.int .u32 (id : Int), .int .u32 (to : Int), .int .i64 kind, .string body, .bool sum]] w (PackPost ⟨id, to, kind, body, sum⟩ w) := by
  have HP := Lib.hid (show packE ⟨id, to, kind, body, sum⟩ = 281 ∧ packL ⟨id, to, kind, body, sum⟩ = [] by
    have : packE ⟨id, to, kind, body, sum⟩ = 281 := if_pos hk
    exact ⟨this, by unfold packL; rw [this]; rfl⟩)
  have HB := Lib.hid ((Below.refl w.heap.size w).alloc (Nat.le_refl _) (.cells #[.int .u32 (id : Int), .int .u32 (to : Int), .int .i64 kind, .string body, .bool sum] 27))
  have fin : ∀ (w' : World), w' = (w.alloc (.cells #[.int .u32 (id : Int), .int .u32 (to : Int), .int .i64 kind, .string body, .bool sum] 27)) → PackPost ⟨id, to, kind, body, sum⟩ w (.returned (.tuple #[.slice none 0 0, .int .i64 281])) w' := by
    rintro w' rfl
    exact ⟨_, by rw [HP.out.1]; rfl, by rw [HP.out.2]; exact bslab_nil _, HB.out, fun g hg => by cases hg⟩
  have FIN := Lib.hid fin
  clear fin
  rcases hk with hk | hk
  · go_enter Tryd.func13, Tryd.ntmps13
    go_wp2
    go_ret2
    exact FIN.out _ rfl
  · have hk' : ¬ kind < 1 := by omega
    go_enter Tryd.func13, Tryd.ntmps13
    go_wp2
    go_ret2
    exact FIN.out _ rfl
set_option maxRecDepth 20000 in
set_option maxHeartbeats 4000000 in
theorem pack_false (id to k : Nat) (h1 : id < 4294967296) (h2 : to < 4294967296) (hk0 : 1 ≤ k) (hk6 : k ≤ 6) (body : ByteArray) (hb : body.size ≤ 9223372036854770000) (w : World) : Calls Tryd.prog 13 #[.agg #[.int .u32 (id : Int), .int .u32 (to : Int), .int .i64 (k : Int), .string body, .bool false]] w (PackPost ⟨id, to, k, body, false⟩ w) := by
  have hk1 : ¬ (k : Int) < 1 := by omega
  have hk2 : ¬ 6 < (k : Int) := by omega
  have hsz : WMsg.size ⟨id, to, (k : Int), body, false⟩ = 24 + body.size := by unfold WMsg.size; simp <;> omega
  have HB := Lib.hid ((Below.refl w.heap.size w).alloc (Nat.le_refl _) (.cells #[.int .u32 (id : Int), .int .u32 (to : Int), .int .i64 (k : Int), .string body, .bool false] 27))
  by_cases hbig : 131072 < 24 + body.size
  · have HP := Lib.hid (show packE ⟨id, to, (k : Int), body, false⟩ = 1 ∧ packL ⟨id, to, (k : Int), body, false⟩ = [] by
      have : packE ⟨id, to, (k : Int), body, false⟩ = 1 := by unfold packE; rw [if_neg (by simp only; omega), if_pos (by rw [hsz]; exact hbig)]
      exact ⟨this, by unfold packL; rw [this]; rfl⟩)
    have hbI : (131072 : Int) < 24 + (body.size : Int) := by omega
    clear hsz
    go_enter Tryd.func13, Tryd.ntmps13
    go_wp2
    go_ret2
    exact ⟨_, by rw [HP.out.1]; rfl, by rw [HP.out.2]; exact bslab_nil _, HB.out, fun g hg => by cases hg⟩
  · have HE := Lib.hid (show packE ⟨id, to, (k : Int), body, false⟩ = 0 by unfold packE; rw [if_neg (by simp only; omega), if_neg (by rw [hsz]; exact hbig)])
    have HSZ := Lib.hid hsz
    have hbI : ¬ (131072 : Int) < 24 + (body.size : Int) := by omega
    have hlt : body.size ≤ 131072 := by omega
    have kc := conv_magic (w.alloc (.cells #[.int .u32 (id : Int), .int .u32 (to : Int), .int .i64 (k : Int), .string body, .bool false] 27)) (w.heap.size + 1) (by simp)
    have hcall := nums_call (.slice (some ⟨w.heap.size + 1, 0, none⟩) 4 4) magicL [24 + body.size, id, to, k, 0] 5 rfl (by simp; omega) (by decide) (by simp) ((w.alloc (.cells #[.int .u32 (id : Int), .int .u32 (to : Int), .int .i64 (k : Int), .string body, .bool false] 27)).alloc magicB) #[.int .u32 (24 + (body.size : Int)), .int .u32 (id : Int), .int .u32 (to : Int), .int .u32 (k : Int), .int .u32 0]
      (by have := magic_slab (w.alloc (.cells #[.int .u32 (id : Int), .int .u32 (to : Int), .int .i64 (k : Int), .string body, .bool false] 27)); rw [show ((w.alloc (.cells #[.int .u32 (id : Int), .int .u32 (to : Int), .int .i64 (k : Int), .string body, .bool false] 27))).heap.size = w.heap.size + 1 by simp] at this; exact this) (by simp [numsV] <;> omega) (w.heap.size + 1 + 1) (by simp)
    have HC := Lib.hid hcall
    have HEQ := Lib.hid (show packA ⟨id, to, (k : Int), body, false⟩ = (magicL ++ fours [24 + body.size, id, to, k, 0]) ++ body.data.toList by rw [packA_eq, hsz]; rfl)
    have hB3 : Below w.heap.size w (((w.alloc (.cells #[.int .u32 (id : Int), .int .u32 (to : Int), .int .i64 (k : Int), .string body, .bool false] 27)).alloc magicB).alloc (.cells #[.int .u32 (24 + (body.size : Int)), .int .u32 (id : Int), .int .u32 (to : Int), .int .u32 (k : Int), .int .u32 0] 25)) := ((HB.out.alloc (by simp) _).alloc (by simp; omega) _)
    have hblk : (((w.alloc (.cells #[.int .u32 (id : Int), .int .u32 (to : Int), .int .i64 (k : Int), .string body, .bool false] 27)).alloc magicB).alloc (.cells #[.int .u32 (24 + (body.size : Int)), .int .u32 (id : Int), .int .u32 (to : Int), .int .u32 (k : Int), .int .u32 0] 25)).heap[w.heap.size]? = some (.cells #[.int .u32 (id : Int), .int .u32 (to : Int), .int .i64 (k : Int), .string body, .bool false] 27) := by
      rw [heap_alloc_old _ _ (by simp; omega), heap_alloc_old _ _ (by simp)]; exact heap_alloc_new w _
    have HB3 := Lib.hid hB3
    have HBLK := Lib.hid hblk
    have hfl := fours_len [24 + body.size, id, to, k, 0]
    have HLEN := Lib.hid (show (magicL ++ fours [24 + body.size, id, to, k, 0]).length = 24 by rw [List.length_append, hfl]; rfl)
    clear hsz hbig hcall hB3 hblk hfl
    go_enter Tryd.func13, Tryd.ntmps13
    go_wp2_with fail
    refine HC.out.mono ?_; rintro e w4 ⟨v, rfl, hs, hu⟩
    generalize magicL ++ fours [24 + body.size, id, to, k, 0] = L at *
    have hl := HLEN.out
    have hne : ((.slice (some ⟨w.heap.size + 1, 0, none⟩) 4 4 : Value)).ownBlock ≠ some w.heap.size := by simp [Value.ownBlock]
    have hblk4 := (hu.block (k := w.heap.size) (by simp; omega) hne).trans HBLK.out
    have HB4 := Lib.hid (HB3.out.trans (hu.below (B := w.heap.size) (by simp; omega) (fun g hg => by simp [Value.ownBlock] at hg; omega)))
    have hvn : ∀ g, v.ownBlock = some g → w.heap.size < g := fun g hg => by
      rcases hu.own with h | ⟨q, h, hq⟩
      · rw [h] at hg; simp [Value.ownBlock] at hg; omega
      · rw [h] at hg; have := Option.some.inj hg; simp at hq; omega
    have HVN := Lib.hid hvn
    have HS := Lib.hid hs
    obtain ⟨⟨_, _, _, c3, c4⟩, _⟩ := cellsOf5 hblk4
    have HBLK4 := Lib.hid hblk4
    clear hs hu hblk4 hvn kc hne HC HBLK HB3
    go_wp2_with (at_builtin; refine wpList_slab bytTy 9 (by rfl) _ _ (by rfl) v L.length (bytesV L) (by rfl) HS.out (.string body) (by rfl) body.size (byteCells body) (Src.ofString w4 Tryd.underlying9 body) (by unfold maxLen; omega) (by omega) ?_; intro v2 w5 hs5 hu5; have HS5 := Lib.hid (show BSlab w5 v2 (L ++ body.data.toList) by unfold BSlab; rw [bytesV_append, List.length_append]; exact hs5); have HU5 := Lib.hid hu5; clear hs5 hu5; have hblk5 := (HU5.out.block (k := w.heap.size) (cell_lt (p := ⟨w.heap.size, 3, none⟩) c3) (fun e => by have := HVN.out _ e; omega)).trans HBLK4.out; obtain ⟨⟨_, _, _, d3, d4⟩, _⟩ := cellsOf5 hblk5; clear hblk5)
    go_ret2
    refine ⟨v2, by rw [HE.out]; rfl, ?_, HB4.out.trans (HU5.out.below HB4.out.size (fun g hg => by have := HVN.out g hg; omega)), fun g hg => ?_⟩
    · rw [show packL ⟨id, to, (k : Int), body, false⟩ = packA ⟨id, to, (k : Int), body, false⟩ by unfold packL; rw [if_pos HE.out]; rfl, HEQ.out]; exact HS5.out
    · rcases HU5.out.own with h | ⟨q, h, hq⟩
      · rw [h] at hg; have := HVN.out g hg; omega
      · rw [h] at hg; have := Option.some.inj hg; have := HB4.out.size; omega
set_option maxRecDepth 20000 in
set_option maxHeartbeats 4000000 in
theorem pack_true (id to k : Nat) (h1 : id < 4294967296) (h2 : to < 4294967296) (hk0 : 1 ≤ k) (hk6 : k ≤ 6) (body : ByteArray) (hb : body.size ≤ 9223372036854770000) (w : World) : Calls Tryd.prog 13 #[.agg #[.int .u32 (id : Int), .int .u32 (to : Int), .int .i64 (k : Int), .string body, .bool true]] w (PackPost ⟨id, to, k, body, true⟩ w) := by
  have hk1 : ¬ (k : Int) < 1 := by omega
  have hk2 : ¬ 6 < (k : Int) := by omega
  have hsz : WMsg.size ⟨id, to, (k : Int), body, true⟩ = 28 + body.size := by unfold WMsg.size; simp <;> omega
  have HB := Lib.hid ((Below.refl w.heap.size w).alloc (Nat.le_refl _) (.cells #[.int .u32 (id : Int), .int .u32 (to : Int), .int .i64 (k : Int), .string body, .bool true] 27))
  by_cases hbig : 131072 < 28 + body.size
  · have HP := Lib.hid (show packE ⟨id, to, (k : Int), body, true⟩ = 1 ∧ packL ⟨id, to, (k : Int), body, true⟩ = [] by
      have : packE ⟨id, to, (k : Int), body, true⟩ = 1 := by unfold packE; rw [if_neg (by simp only; omega), if_pos (by rw [hsz]; exact hbig)]
      exact ⟨this, by unfold packL; rw [this]; rfl⟩)
    have hbI : (131072 : Int) < 24 + (body.size : Int) + 4 := by omega
    clear hsz
    go_enter Tryd.func13, Tryd.ntmps13
    go_wp2
    go_ret2
    exact ⟨_, by rw [HP.out.1]; rfl, by rw [HP.out.2]; exact bslab_nil _, HB.out, fun g hg => by cases hg⟩
  · have HE := Lib.hid (show packE ⟨id, to, (k : Int), body, true⟩ = 0 by unfold packE; rw [if_neg (by simp only; omega), if_neg (by rw [hsz]; exact hbig)])
    have HSZ := Lib.hid hsz
    have hbI : ¬ (131072 : Int) < 24 + (body.size : Int) + 4 := by omega
    have hlt : body.size ≤ 131072 := by omega
    have kc := conv_magic (w.alloc (.cells #[.int .u32 (id : Int), .int .u32 (to : Int), .int .i64 (k : Int), .string body, .bool true] 27)) (w.heap.size + 1) (by simp)
    have hcall := nums_call (.slice (some ⟨w.heap.size + 1, 0, none⟩) 4 4) magicL [28 + body.size, id, to, k, 1] 5 rfl (by simp; omega) (by decide) (by simp) ((w.alloc (.cells #[.int .u32 (id : Int), .int .u32 (to : Int), .int .i64 (k : Int), .string body, .bool true] 27)).alloc magicB) #[.int .u32 (24 + (body.size : Int) + 4), .int .u32 (id : Int), .int .u32 (to : Int), .int .u32 (k : Int), .int .u32 1]
      (by have := magic_slab (w.alloc (.cells #[.int .u32 (id : Int), .int .u32 (to : Int), .int .i64 (k : Int), .string body, .bool true] 27)); rw [show ((w.alloc (.cells #[.int .u32 (id : Int), .int .u32 (to : Int), .int .i64 (k : Int), .string body, .bool true] 27))).heap.size = w.heap.size + 1 by simp] at this; exact this) (by simp [numsV] <;> omega) (w.heap.size + 1 + 1) (by simp)
    have HC := Lib.hid hcall
    have HEQ := Lib.hid (show packA ⟨id, to, (k : Int), body, true⟩ = (magicL ++ fours [28 + body.size, id, to, k, 1]) ++ body.data.toList by rw [packA_eq, hsz]; rfl)
    have hB3 : Below w.heap.size w (((w.alloc (.cells #[.int .u32 (id : Int), .int .u32 (to : Int), .int .i64 (k : Int), .string body, .bool true] 27)).alloc magicB).alloc (.cells #[.int .u32 (24 + (body.size : Int) + 4), .int .u32 (id : Int), .int .u32 (to : Int), .int .u32 (k : Int), .int .u32 1] 25)) := ((HB.out.alloc (by simp) _).alloc (by simp; omega) _)
    have hblk : (((w.alloc (.cells #[.int .u32 (id : Int), .int .u32 (to : Int), .int .i64 (k : Int), .string body, .bool true] 27)).alloc magicB).alloc (.cells #[.int .u32 (24 + (body.size : Int) + 4), .int .u32 (id : Int), .int .u32 (to : Int), .int .u32 (k : Int), .int .u32 1] 25)).heap[w.heap.size]? = some (.cells #[.int .u32 (id : Int), .int .u32 (to : Int), .int .i64 (k : Int), .string body, .bool true] 27) := by
      rw [heap_alloc_old _ _ (by simp; omega), heap_alloc_old _ _ (by simp)]; exact heap_alloc_new w _
    have HB3 := Lib.hid hB3
    have HBLK := Lib.hid hblk
    have hfl := fours_len [28 + body.size, id, to, k, 1]
    have HLEN := Lib.hid (show (magicL ++ fours [28 + body.size, id, to, k, 1]).length = 24 by rw [List.length_append, hfl]; rfl)
    clear hsz hbig hcall hB3 hblk hfl
    go_enter Tryd.func13, Tryd.ntmps13
    go_wp2_with fail
    refine HC.out.mono ?_; rintro e w4 ⟨v, rfl, hs, hu⟩
    generalize magicL ++ fours [28 + body.size, id, to, k, 1] = L at *
    have hl := HLEN.out
    have hne : ((.slice (some ⟨w.heap.size + 1, 0, none⟩) 4 4 : Value)).ownBlock ≠ some w.heap.size := by simp [Value.ownBlock]
    have hblk4 := (hu.block (k := w.heap.size) (by simp; omega) hne).trans HBLK.out
    have HB4 := Lib.hid (HB3.out.trans (hu.below (B := w.heap.size) (by simp; omega) (fun g hg => by simp [Value.ownBlock] at hg; omega)))
    have hvn : ∀ g, v.ownBlock = some g → w.heap.size < g := fun g hg => by
      rcases hu.own with h | ⟨q, h, hq⟩
      · rw [h] at hg; simp [Value.ownBlock] at hg; omega
      · rw [h] at hg; have := Option.some.inj hg; simp at hq; omega
    have HVN := Lib.hid hvn
    have HS := Lib.hid hs
    obtain ⟨⟨_, _, _, c3, c4⟩, _⟩ := cellsOf5 hblk4
    have HBLK4 := Lib.hid hblk4
    clear hs hu hblk4 hvn kc hne HC HBLK HB3
    go_wp2_with (at_builtin; refine wpList_slab bytTy 9 (by rfl) _ _ (by rfl) v L.length (bytesV L) (by rfl) HS.out (.string body) (by rfl) body.size (byteCells body) (Src.ofString w4 Tryd.underlying9 body) (by unfold maxLen; omega) (by omega) ?_; intro v2 w5 hs5 hu5; have HS5 := Lib.hid (show BSlab w5 v2 (L ++ body.data.toList) by unfold BSlab; rw [bytesV_append, List.length_append]; exact hs5); have HU5 := Lib.hid hu5; clear hs5 hu5; have hblk5 := (HU5.out.block (k := w.heap.size) (cell_lt (p := ⟨w.heap.size, 3, none⟩) c3) (fun e => by have := HVN.out _ e; omega)).trans HBLK4.out; obtain ⟨⟨_, _, _, d3, d4⟩, _⟩ := cellsOf5 hblk5; clear hblk5)
    obtain ⟨A, cap, rfl, hcap, hcm, hbi⟩ := HS5.out.bytes
    have hlb : (L ++ body.data.toList).length = 24 + body.size := by rw [List.length_append, hl]; rfl
    have hsum := sum_c A cap (L ++ body.data.toList) (by unfold maxLen; omega) w5 hbi
    have hcrc := crc_lt (L ++ body.data.toList)
    have HEQ' := Lib.hid (show packed ⟨id, to, (k : Int), body, true⟩ = (L ++ body.data.toList) ++ fours [crc (L ++ body.data.toList)] by unfold packed; rw [HEQ.out]; simp [fours])
    have HL2 := Lib.hid hlb
    clear HEQ hbi
    generalize L ++ body.data.toList = L2 at *
    have hcall2 := nums_call _ L2 [crc L2] 1 rfl (by simp; omega) (by omega) (by simp) w5 #[.int .u32 (crc L2 : Int)] HS5.out (by simp [numsV]) w5.heap.size rfl
    have HC2 := Lib.hid hcall2
    clear hcall2 hcrc c3 c4 hlb
    go_wp2_with fail
    refine hsum.mono ?_; rintro e w6 ⟨rfl, rfl⟩
    clear hsum
    go_wp2_with fail
    refine HC2.out.mono ?_; rintro e w7 ⟨v3, rfl, hs7, hu7⟩
    have HS7 := Lib.hid hs7
    have HU7 := Lib.hid ((Upd.of_below ((Below.refl w6.heap.size w6).alloc (Nat.le_refl _) _) _).trans hu7)
    clear hs7 hu7 d3 d4
    go_wp2
    go_ret2
    have hb5 := HB4.out.trans (HU5.out.below HB4.out.size (fun g hg => by have := HVN.out g hg; omega))
    have hv2 : ∀ g, (Value.slice A L2.length cap).ownBlock = some g → w.heap.size ≤ g := fun g hg => by
      rcases HU5.out.own with h | ⟨q, h, hq⟩
      · rw [h] at hg; have := HVN.out g hg; omega
      · rw [h] at hg; have := Option.some.inj hg; have := HB4.out.size; omega
    refine ⟨v3, by rw [HE.out]; rfl, ?_, hb5.trans (HU7.out.below hb5.size hv2), fun g hg => ?_⟩
    · rw [show packL ⟨id, to, (k : Int), body, true⟩ = packed ⟨id, to, (k : Int), body, true⟩ by unfold packL; rw [if_pos HE.out], HEQ'.out]; exact HS7.out
    · rcases HU7.out.own with h | ⟨q, h, hq⟩
      · rw [h] at hg; exact hv2 g hg
      · rw [h] at hg; have := Option.some.inj hg; have := hb5.size; omega
end Go.Proofs.YtkpickojeghppaaDoor
