/- What is done to an end, in plain Lean and in memory; the walks of long and bytes. Conditions: what comes is of weight below 2 to the 30. -/
import Derived.Test.YtkpickojeghppaaDoorMsgs
namespace Go.Proofs.YtkpickojeghppaaDoor
open Go.RowKit
structure ActP where
  kind : Int
  raw : List UInt8
  ms : List WMsg
  body : ByteArray
def msgsW (l : List WMsg) : Nat := (l.map fun m => m.body.size + 6).sum
def ActP.wt (a : ActP) : Nat := a.raw.length + a.body.size + msgsW a.ms
def actsW (l : List ActP) : Nat := (l.map fun a => a.wt + 1).sum
def bodiesW (l : List WMsg) : Nat := (l.map fun m => m.body.size).sum
def ActP.size (a : ActP) : Nat := a.raw.length + a.body.size + bodiesW a.ms
def actsSize (l : List ActP) : Nat := (l.map ActP.size).sum
def longB (l : List ActP) : Bool := decide (2000000 < actsSize l) || decide (300 < l.length)
def ActP.bytes (a : ActP) : List UInt8 := a.raw ++ a.ms.flatMap packL
theorem msgsW_cons (m : WMsg) (l : List WMsg) : msgsW (m :: l) = m.body.size + 6 + msgsW l := by simp [msgsW]
theorem msgsW_le (l : List WMsg) : bodiesW l ≤ msgsW l ∧ l.length ≤ msgsW l := by
  induction l with
  | nil => simp [msgsW, bodiesW]
  | cons m r ih => rw [msgsW_cons]; simp only [bodiesW, List.map_cons, List.sum_cons, List.length_cons] at *; omega
theorem actsW_cons (a : ActP) (l : List ActP) : actsW (a :: l) = a.wt + 1 + actsW l := by simp [actsW]
theorem ActP.size_le (a : ActP) : a.size ≤ a.wt := by have := (msgsW_le a.ms).1; unfold ActP.size ActP.wt; omega
theorem actsW_le (l : List ActP) : actsSize l ≤ actsW l ∧ l.length ≤ actsW l := by
  induction l with
  | nil => simp [actsW, actsSize]
  | cons a r ih => have := a.size_le; rw [actsW_cons]; simp only [actsSize, List.map_cons, List.sum_cons, List.length_cons] at *; omega
theorem actsW_get {l : List ActP} {i : Nat} (h : i < l.length) : (l[i]).wt + 1 ≤ actsW l := by
  induction l generalizing i with
  | nil => simp at h
  | cons a r ih =>
    rw [actsW_cons]
    cases i with
    | zero => simp
    | succ i => have := ih (i := i) (by simpa using h); simp only [List.getElem_cons_succ]; omega
theorem msgsW_get {l : List WMsg} {i : Nat} (h : i < l.length) : (l[i]).body.size + 6 ≤ msgsW l := by
  induction l generalizing i with
  | nil => simp at h
  | cons a r ih =>
    rw [msgsW_cons]
    cases i with
    | zero => simp
    | succ i => have := ih (i := i) (by simpa using h); simp only [List.getElem_cons_succ]; omega
theorem packL_size (m : WMsg) : (packL m).length ≤ 5 * (m.body.size + 6) := by
  unfold packL
  split
  · rw [packed_len]; unfold WMsg.size; split <;> omega
  · simp
theorem flat_size (l : List WMsg) : (l.flatMap packL).length ≤ 5 * msgsW l := by
  induction l with
  | nil => simp
  | cons m r ih => rw [List.flatMap_cons, List.length_append, msgsW_cons]; have := packL_size m; omega
theorem ActP.bytes_size (a : ActP) : a.bytes.length ≤ 5 * a.wt := by
  unfold ActP.bytes ActP.wt
  rw [List.length_append]
  have := flat_size a.ms
  omega
theorem acts_size (l : List ActP) : (l.flatMap ActP.bytes).length ≤ 5 * actsW l := by
  induction l with
  | nil => simp
  | cons a r ih => rw [List.flatMap_cons, List.length_append, actsW_cons]; have := a.bytes_size; omega
/-- messages in memory -/
def msgsV (l : List WMsg) : List Value := l.flatMap msgV
def MsgsIn (w : World) (A : Option Addr) (l : List WMsg) : Prop := l = [] ∨ ∃ G o, A = some ⟨G, o, none⟩ ∧ w.rangeAt G o (msgsV l)
/-- an act's four cells -/
structure ActV (w : World) (a : ActP) (Ar : Option Addr) (cr : Nat) (Am : Option Addr) (cm : Nat) : Prop where
  raw : BytesIn w Ar a.raw
  cr1 : a.raw.length ≤ cr
  cr2 : cr ≤ maxLen
  msgs : MsgsIn w Am a.ms
  cm1 : a.ms.length ≤ cm
  cm2 : cm ≤ maxLen
  ok : ∀ m ∈ a.ms, MsgIn m
def actV (a : ActP) (Ar : Option Addr) (cr : Nat) (Am : Option Addr) (cm : Nat) : List Value := [.int .i64 a.kind, .slice Ar a.raw.length cr, .slice Am a.ms.length cm, .string a.body]
def ActsIn (w : World) (A : Option Addr) (l : List ActP) : Prop := l = [] ∨ ∃ G o, A = some ⟨G, o, none⟩ ∧ ∀ i (h : i < l.length), ∃ Ar cr Am cm, ActV w l[i] Ar cr Am cm ∧ w.rangeAt G (o + i * 4) (actV l[i] Ar cr Am cm)
theorem rangeAt_below {w w' : World} {G o : Nat} {xs : List Value} (h : w.rangeAt G o xs) (hb : Below w.heap.size w w') : w'.rangeAt G o xs := fun j v hj => cell_below hb (h j v hj)
theorem MsgsIn.below {w w' : World} {A : Option Addr} {l : List WMsg} (h : MsgsIn w A l) (hb : Below w.heap.size w w') : MsgsIn w' A l := by
  rcases h with h | ⟨G, o, e, h⟩
  · exact .inl h
  · exact .inr ⟨G, o, e, rangeAt_below h hb⟩
theorem ActV.below {w w' : World} {a : ActP} {Ar : Option Addr} {cr : Nat} {Am : Option Addr} {cm : Nat} (h : ActV w a Ar cr Am cm) (hb : Below w.heap.size w w') : ActV w' a Ar cr Am cm :=
  ⟨BytesIn.below h.raw hb, h.cr1, h.cr2, h.msgs.below hb, h.cm1, h.cm2, h.ok⟩
theorem ActsIn.below {w w' : World} {A : Option Addr} {l : List ActP} (h : ActsIn w A l) (hb : Below w.heap.size w w') : ActsIn w' A l := by
  rcases h with h | ⟨G, o, e, h⟩
  · exact .inl h
  · refine .inr ⟨G, o, e, fun i hi => ?_⟩
    obtain ⟨a, b, c, d, h1, h2⟩ := h i hi
    exact ⟨a, b, c, d, h1.below hb, rangeAt_below h2 hb⟩
theorem msgsV_get (l : List WMsg) : ∀ (k : Nat) (h : k < l.length) (j : Nat), j < 5 → (msgsV l)[k * 5 + j]? = (msgV l[k])[j]? := by
  induction l with
  | nil => intro k h; simp at h
  | cons x r ih =>
    intro k h j hj
    have hx : (msgV x).length = 5 := rfl
    cases k with
    | zero =>
      show (msgV x ++ msgsV r)[0 * 5 + j]? = _
      rw [List.getElem?_append_left (by omega)]
      simp
    | succ k =>
      show (msgV x ++ msgsV r)[(k + 1) * 5 + j]? = _
      rw [List.getElem?_append_right (by omega), hx]
      have := ih k (by simpa using h) j hj
      rw [show (k + 1) * 5 + j - 5 = k * 5 + j by omega, this]
      rfl
/-- a message's five cells -/
theorem MsgsIn.cells {w : World} {G o : Nat} {l : List WMsg} (h : w.rangeAt G o (msgsV l)) (k : Nat) (hk : k < l.length) :
    w.cell? ⟨G, o + k * 5, none⟩ = some (.int .u32 ((l[k]).id : Int)) ∧ w.cell? ⟨G, o + k * 5 + 1, none⟩ = some (.int .u32 ((l[k]).to : Int)) ∧ w.cell? ⟨G, o + k * 5 + 2, none⟩ = some (.int .i64 (l[k]).kind) ∧ w.cell? ⟨G, o + k * 5 + 3, none⟩ = some (.string (l[k]).body) ∧ w.cell? ⟨G, o + k * 5 + 4, none⟩ = some (.bool (l[k]).sum) :=
  ⟨h (k * 5 + 0) _ (msgsV_get l k hk 0 (by omega)), h (k * 5 + 1) _ (msgsV_get l k hk 1 (by omega)), h (k * 5 + 2) _ (msgsV_get l k hk 2 (by omega)), h (k * 5 + 3) _ (msgsV_get l k hk 3 (by omega)), h (k * 5 + 4) _ (msgsV_get l k hk 4 (by omega))⟩
set_option maxRecDepth 20000 in
set_option maxHeartbeats 4000000 in
/-- bytes: what comes by an act, in memory of its own -/
theorem bytes_c (a : ActP) (Ar : Option Addr) (cr : Nat) (Am : Option Addr) (cm : Nat) (hw : a.wt ≤ 1073741824) (w : World) (h : ActV w a Ar cr Am cm) :
    Calls Tryd.prog 21 #[.agg (actV a Ar cr Am cm).toArray] w fun e w' => ∃ v, e = .returned v ∧ BSlab w' v a.bytes ∧ Below w.heap.size w w' ∧ ∀ g, v.ownBlock = some g → w.heap.size ≤ g := by
  obtain ⟨kind, raw, ms, body⟩ := a
  show Calls Tryd.prog 21 #[.agg #[.int .i64 kind, .slice Ar raw.length cr, .slice Am ms.length cm, .string body]] w _
  unfold ActP.wt at hw
  simp only at hw
  have hmw := msgsW_le ms
  have hfl := flat_size ms
  have HA := Lib.hid h
  have hcm2 : cm ≤ maxLen := h.cm2
  have hcr2 : cr ≤ maxLen := h.cr2
  have hcm1 : ms.length ≤ cm := h.cm1
  have HBX := Lib.hid (show Below w.heap.size w (w.alloc (.cells #[.int .i64 kind, .slice Ar raw.length cr, .slice Am ms.length cm, .string body] 48)) from (Below.refl _ _).alloc (Nat.le_refl _) _)
  have HX := Lib.hid (heap_alloc_new w (.cells #[.int .i64 kind, .slice Ar raw.length cr, .slice Am ms.length cm, .string body] 48))
  clear h
  unfold maxLen at hcm2 hcr2
  go_enter Tryd.func21, Tryd.ntmps21
  go_wp2_with (at_builtin; refine wpList_slab bytTy 28 (by rfl) _ _ (by rfl) (.slice (some ⟨w.heap.size + 1, 0, none⟩) 0 0) 0 [] (by rfl) (slab_lit (w.alloc (.cells #[.int .i64 kind, .slice Ar raw.length cr, .slice Am ms.length cm, .string body] 48)) _ (by simp)) (.slice Ar raw.length cr) (by rfl) raw.length (bytesV raw) (src_bytes (BytesIn.below HA.out.raw (HBX.out.alloc HBX.out.size _)) rfl) (by unfold maxLen; omega) (by omega) ?_; intro v1 w1 hs1 hu1; rw [Nat.zero_add, List.nil_append] at hs1; obtain ⟨hb1, hn1⟩ := copied (w := w.alloc (.cells #[.int .i64 kind, .slice Ar raw.length cr, .slice Am ms.length cm, .string body] 48)) (by simp) ((Below.refl _ _).alloc (Nat.le_refl _) _) (by simp) hu1; have HB1 := Lib.hid hb1; have HN1 := Lib.hid hn1; have HS1 := Lib.hid (show BSlab w1 v1 raw from hs1); obtain ⟨A1, c1, hv1, hc1, hm1, _⟩ := Slab.form hs1; subst hv1; clear hs1 hu1 hb1 hn1)
  have hzx : w.heap.size < (w.alloc (.cells #[.int .i64 kind, .slice Ar raw.length cr, .slice Am ms.length cm, .string body] 48)).heap.size := by simp
  generalize w.alloc (.cells #[.int .i64 kind, .slice Ar raw.length cr, .slice Am ms.length cm, .string body] 48) = WX at *
  go_loopw [3, 4, 5, 6] (fun b i _ _ wr => ∃ (k : Nat) (v' : Value), k ≤ ms.length ∧ i = .int .i64 k ∧ v' = b ∧ Hid (BSlab wr v' (raw ++ (ms.take k).flatMap packL)) ∧ Hid (Below WX.heap.size WX wr) ∧ Hid (∀ g, v'.ownBlock = some g → WX.heap.size ≤ g)) (fun _ i _ _ _ => ms.length - (intOf i).toNat)
  case atStart => exact ⟨0, _, Nat.zero_le _, rfl, rfl, Lib.hid (by simpa using HS1.out), HB1, HN1⟩
  case round =>
    obtain ⟨k, v', hk, rfl, rfl, HS, HB, HN⟩ := hrel
    have hbx : wr.heap[w.heap.size]? = _ := (HB.out.block w.heap.size hzx).trans HX.out
    have x2 : wr.cell? ⟨w.heap.size, 2, none⟩ = some (.slice Am ms.length cm) := cell_of_row _ _ 2 _ _ _ hbx
    clear hbx
    by_cases hlt : k < ms.length
    · obtain ⟨G, o, rfl, hr⟩ : ∃ G o, Am = some ⟨G, o, none⟩ ∧ w.rangeAt G o (msgsV ms) := by
        rcases HA.out.msgs with h0 | h
        · simp only at h0; rw [h0] at hlt; simp at hlt
        · exact h
      have HBW := Lib.hid (HBX.out.trans (HB.out.mono HBX.out.size))
      obtain ⟨m0, m1, m2, m3, m4⟩ := MsgsIn.cells (rangeAt_below hr HBW.out) k hlt
      have hmk := msgsW_get hlt
      have HMK := Lib.hid ((HA.out.ok ms[k] (List.getElem_mem hlt)).ok (by omega))
      have HT := Lib.hid (show (ms.take (k + 1)).flatMap packL = (ms.take k).flatMap packL ++ packL ms[k] by rw [List.take_succ_eq_append_getElem hlt, List.flatMap_append]; simp)
      have hsz1 : ((ms.take k).flatMap packL).length ≤ 5 * msgsW ms := by
        have h1 : (ms.flatMap packL).length = ((ms.take k).flatMap packL).length + ((ms.drop k).flatMap packL).length := by rw [← List.length_append, ← List.flatMap_append, List.take_append_drop]
        omega
      have hpl := packL_len ms[k]
      clear hr
      generalize ms[k] = m at *
      obtain ⟨mi, mt, mk, mb, msm⟩ := m
      simp only at m0 m1 m2 m3 m4
      have HPK := Lib.hid (show Calls Tryd.prog 14 #[.agg #[.int .u32 (mi : Int), .int .u32 (mt : Int), .int .i64 mk, .string mb, .bool msm]] wr (PackPost ⟨mi, mt, mk, mb, msm⟩ wr) from refPack_c ⟨mi, mt, mk, mb, msm⟩ HMK.out wr)
      obtain ⟨cur, hcur⟩ : ∃ cur, raw ++ (ms.take k).flatMap packL = cur := ⟨_, rfl⟩
      have hcl : cur.length = raw.length + ((ms.take k).flatMap packL).length := by rw [← hcur, List.length_append]
      rw [hcur] at HS
      have HCU := Lib.hid hcur
      clear hcur
      go_wp2_with (first
        | (go_at_call 14; refine HPK.out.mono ?_; rintro e w2 ⟨vp, rfl, hs2, hb2, hn2⟩; have HS2 := Lib.hid hs2; have HB2 := Lib.hid (HB.out.trans (hb2.mono HB.out.size)); have HSC := Lib.hid (show BSlab w2 v' cur from Slab.below HS.out hb2); clear hs2 hb2 hn2)
        | (at_builtin; refine wpList_slab bytTy 28 (by rfl) _ _ (by rfl) v' cur.length (bytesV cur) (by rfl) HSC.out vp (by rfl) (packL ⟨mi, mt, mk, mb, msm⟩).length (bytesV (packL ⟨mi, mt, mk, mb, msm⟩)) (src_bslab HS2.out) (by unfold maxLen; omega) (by omega) ?_; intro v3 w3 hs3 hu3; have HS3 := Lib.hid (show BSlab w3 v3 (raw ++ (ms.take (k + 1)).flatMap packL) by rw [HT.out, ← List.append_assoc, HCU.out]; unfold BSlab; rw [bytesV_append, List.length_append]; exact hs3); obtain ⟨hb3, hn3⟩ := grown (w := WX) HB2.out HN.out hu3; have HB3 := Lib.hid hb3; have HN3 := Lib.hid hn3; clear hs3 hu3 hb3 hn3))
      go_roundw
      case rel => exact ⟨k + 1, v3, by omega, by go_num, rfl, HS3, HB3, HN3⟩
      case measure => simp [intOf]; omega
    · obtain rfl : k = ms.length := by omega
      go_wp2
      go_ret
      refine ⟨v', rfl, ?_, HBX.out.trans (HB.out.mono HBX.out.size), fun g hg => Nat.le_trans HBX.out.size (HN.out g hg)⟩
      have := HS.out
      rwa [List.take_length] at this
end Go.Proofs.YtkpickojeghppaaDoor
