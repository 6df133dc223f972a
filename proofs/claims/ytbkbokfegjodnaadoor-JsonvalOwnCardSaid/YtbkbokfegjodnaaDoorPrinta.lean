/- The plain printer, its length; memory while bytes are written. Conditions: what the laws name. -/
import Derived.Test.YtbkbokfegjodnaaDoorMemory
import Derived.Test.YtbkbokfegjodnaaDoorFitk
import Derived.Lib.MapLaws
import Derived.Lib.ValidLaws
import Derived.Lib.ItoaNum
import Derived.Laws.RangeAny
import Derived.Test.YtbkbokfegjodnaaDoorBasic
import Derived.Test.YtbkbokfegjodnaaDoorShelf
import Derived.Lib.AppendStr
import Derived.Deep.RegionLaw
import Derived.Lib.ItoaLen
namespace Go.Proofs.YtbkbokfegjodnaaDoor
open Go.RowKit
/-- a hexadecimal digit -/
def hexd (n : Nat) : UInt8 := if n < 10 then UInt8.ofNat (48 + n) else UInt8.ofNat (87 + n)
/-- a byte of a text, written -/
def jqc (c : UInt8) : List UInt8 :=
  if c = 34 ∨ c = 92 then [92, c] else if c = 8 then [92, 98] else if c = 9 then [92, 116] else if c = 10 then [92, 110] else if c = 12 then [92, 102] else if c = 13 then [92, 114]
  else if c.toNat < 32 then [92, 117, 48, 48, hexd (c.toNat / 16), hexd (c.toNat % 16)] else [c]
def jqs (s : List UInt8) : List UInt8 := s.flatMap jqc
def jq (s : List UInt8) : List UInt8 := 34 :: (jqs s ++ [34])
mutual
/-- a value, written -/
def jput : JV → List UInt8
  | .mk k n s ns is =>
    if k = 0 then [110, 117, 108, 108] else if k = 1 then [102, 97, 108, 115, 101] else if k = 2 then [116, 114, 117, 101] else if k = 3 then Lib.itoa n else if k = 4 then jq s.data.toList
    else if k = 6 then 123 :: (jputM true ns is ++ [125]) else 91 :: (jputL true is ++ [93])
def jputL : Bool → List JV → List UInt8
  | _, [] => []
  | f, t :: r => (if f then [] else [44]) ++ (jput t ++ jputL false r)
def jputM : Bool → List ByteArray → List JV → List UInt8
  | f, n :: ns, t :: r => (if f then [] else [44]) ++ (jq n.data.toList ++ (58 :: (jput t ++ jputM false ns r)))
  | _, _, _ => []
end
/-- what Print answers -/
def jprint (v : JV) : List UInt8 × Int := if chk v 0 = 0 then (if 65536 < (jput v).length then ([], 1) else (jput v, 0)) else ([], chk v 0)
theorem jqs_app (a b : List UInt8) : jqs (a ++ b) = jqs a ++ jqs b := by unfold jqs; rw [List.flatMap_append]
theorem jqs_cons (c : UInt8) (b : List UInt8) : jqs (c :: b) = jqc c ++ jqs b := rfl
theorem jqc_high {c : UInt8} (h : 128 ≤ c.toNat) : jqc c = [c] := by
  have ne : ∀ d : UInt8, d.toNat < 128 → c ≠ d := fun d hd e => by rw [e] at h; omega
  unfold jqc
  rw [if_neg (fun h => h.elim (ne 34 (by decide)) (ne 92 (by decide))), if_neg (ne 8 (by decide)), if_neg (ne 9 (by decide)), if_neg (ne 10 (by decide)), if_neg (ne 12 (by decide)), if_neg (ne 13 (by decide)), if_neg (by omega)]
theorem jqs_high : ∀ (l : List UInt8), (∀ c ∈ l, 128 ≤ c.toNat) → jqs l = l
  | [], _ => rfl
  | c :: r, h => by rw [jqs_cons, jqc_high (h c (List.mem_cons_self ..)), jqs_high r (fun d hd => h d (List.mem_cons_of_mem _ hd))]; rfl
/-- what is written for a rune -/
def jqR (r : Nat) : List UInt8 := if r < 128 then jqc (UInt8.ofNat r) else Lib.encodeRune r
theorem enc_high {r : Nat} (h : 128 ≤ r) : ∀ c ∈ Lib.encodeRune (r : Int), 128 ≤ c.toNat := by
  have hz : ∀ x ∈ Lib.encodeRuneZ (r : Int), 128 ≤ x ∧ x < 256 := by
    intro x hx
    have hb := Lib.encodeRuneZ_byte _ x hx
    refine ⟨?_, hb.2⟩
    unfold Lib.encodeRuneZ at hx
    rw [if_neg (by omega)] at hx
    split at hx
    · simp at hx; omega
    · split at hx
      · simp at hx; omega
      · split at hx
        · simp at hx; omega
        · simp at hx; omega
  intro c hc
  unfold Lib.encodeRune at hc
  obtain ⟨x, hx, rfl⟩ := List.mem_map.1 hc
  obtain ⟨h1, h2⟩ := hz x hx
  have : x.toNat.toUInt8.toNat = x.toNat % 256 := by simp
  omega
theorem quo_step {l : List UInt8} (hne : l ≠ []) (hv : Lib.validD l = true) : 1 ≤ (Lib.decodeL l).2 ∧ (Lib.decodeL l).2 ≤ l.length ∧ jqs l = jqR (Lib.decodeL l).1 ++ jqs (l.drop (Lib.decodeL l).2) ∧ Lib.validD (l.drop (Lib.decodeL l).2) = true := by
  have h1 := Lib.decodeL_width l
  have h2 := Lib.decodeL_le l hne
  rw [Lib.validD_step l hne] at hv
  split at hv
  · cases hv
  · rename_i hg
    refine ⟨h1, h2, ?_, hv⟩
    have he := Lib.encode_decode l hne hg
    cases l with
    | nil => exact absurd rfl hne
    | cons c t =>
      by_cases hc : c.toNat < 128
      · rw [Lib.decodeL_ascii c t hc]
        unfold jqR
        rw [if_pos hc, UInt8.ofNat_toNat]
        rfl
      · have hr : 128 ≤ (Lib.decodeL (c :: t)).1 := by
          have h9 := (decode_high ⟨(c :: t).toArray⟩ 0 (by show 0 < (c :: t).toArray.size; simp) (by show 128 ≤ c.toNat; omega)).1
          exact h9
        unfold jqR
        rw [if_neg (by omega)]
        conv => lhs; rw [← List.take_append_drop (Lib.decodeL (c :: t)).2 (c :: t)]
        rw [jqs_app, ← he, jqs_high _ (enc_high hr)]
theorem jqc_len (c : UInt8) : (jqc c).length ≤ 6 := by
  unfold jqc
  repeat' split
  all_goals simp
theorem jqs_len : ∀ s : List UInt8, (jqs s).length ≤ 6 * s.length
  | [] => by simp [jqs]
  | c :: r => by
    have h1 := jqc_len c
    have h2 := jqs_len r
    rw [jqs_cons, List.length_append, List.length_cons]; omega
theorem jq_len (s : List UInt8) : (jq s).length ≤ 6 * s.length + 2 := by
  have := jqs_len s
  unfold jq
  rw [List.length_cons, List.length_append, List.length_cons, List.length_nil]; omega
end Go.Proofs.YtbkbokfegjodnaaDoor
namespace Go.Proofs.YtbkbokfegjodnaaDoor
open Go.RowKit
theorem byTyK : ByteTy Tryd.prog 63 5 := ⟨by kernel_rfl, by kernel_rfl, by kernel_rfl⟩
/-- what was there at a base stays; of what is newer, what holds no bytes -/
structure K5 (B : Nat) (w w' : World) : Prop where
  below : Below B w w'
  kept : Lib.OthersKept 5 none w w'
theorem K5.refl (B : Nat) (w : World) : K5 B w w := ⟨Below.refl _ _, Lib.OthersKept.refl _ _ _⟩
theorem K5.trans {B : Nat} {a b c : World} (h : K5 B a b) (k : K5 B b c) : K5 B a c := ⟨h.below.trans k.below, h.kept.trans k.kept⟩
theorem K5.of_below {B : Nat} {w w' : World} (h : Below w.heap.size w w') (hB : B ≤ w.heap.size) : K5 B w w' :=
  ⟨h.mono hB, fun k o hk _ _ => by
    have hlt : k < w.heap.size := (Array.getElem?_eq_some_iff.1 hk).1
    rw [h.block k hlt]; exact hk⟩
theorem K5.drew {B : Nat} {w w' : World} (h : K5 B w w') : K5 B w w'.drew := ⟨h.below.drew, fun k o hk h1 h2 => h.kept k o hk h1 h2⟩
theorem K5.size {B : Nat} {w w' : World} (h : K5 B w w') : w.heap.size ≤ w'.heap.size := h.below.size
theorem K5.of_grown {B : Nat} {w w' : World} {v : Value} {l : List UInt8} (hown : Buf w B 5 v l) (hB : B ≤ w.heap.size) (hg : w.grownBy w' v.ownBlock) : K5 B w w' := by
  refine ⟨below_of_grownBy hg hB fun k hk => (hown.lt k hk).1, fun k o hk _ hne => ?_⟩
  have hlt : k < w.heap.size := (Array.getElem?_eq_some_iff.1 hk).1
  rw [hg.block k hlt ?_]
  · exact hk
  · intro e
    rcases hown.2 with ⟨rfl, _⟩ | ⟨g, cap, cur, rfl, _, hh, _⟩
    · cases e
    · have e2 : k = g := Option.some.inj e
      subst e2
      rw [hh] at hk
      injection hk with hk
      exact hne cur (0, 0) hk.symm
/-- a block that holds no bytes -/
theorem K5.block {B : Nat} {w w' : World} (h : K5 B w w') {k : Nat} {c : Array Value} {T : TypeId} {fz : Nat × Nat} (hk : w.heap[k]? = some (.cells c T fz)) (hT : T ≠ 5) : w'.heap[k]? = some (.cells c T fz) :=
  h.kept k _ hk (by simp) (fun c2 f2 e => hT (by injection e))
theorem K5.low {B : Nat} {w w' : World} (h : K5 B w w') {k : Nat} (hk : k < B) : w'.heap[k]? = w.heap[k]? := h.below.block k hk
theorem buf_ext {w w' : World} {B : Nat} {v : Value} {l : List UInt8} (h : Buf w B 5 v l) (hb : Below w.heap.size w w') : Buf w' B 5 v l := by
  unfold Buf at *
  cases e : v.ownBlock with
  | none => exact World.ownsRow.kept h (Upd.of_below hb none).grown (.inl e)
  | some g => exact World.ownsRow.kept h (Upd.of_below hb none).grown (.inr (by rw [e]; simp))
theorem lit_cells (w : World) (bs : List UInt8) : ∀ j u, (bs.map byteV)[j]? = some u → (w.alloc (.cells (bs.map byteV).toArray 5)).cell? ((⟨w.heap.size, 0, none⟩ : Addr).add j) = some u := by
  intro j u hj
  have e : (⟨w.heap.size, 0, none⟩ : Addr).add j = ⟨w.heap.size, j, none⟩ := by unfold Addr.add; split <;> simp_all
  rw [e, cell_of_row _ _ _ _ _ _ (heap_alloc_new w (.cells (bs.map byteV).toArray 5))]
  simpa using hj
/-- append of bytes that stand in the text -/
theorem wpList_lit {ops : Array Oper} {rest : List Oper} {o : Oper} {a : Act} {w0 w : World} {Q : Exit → Act → World → Prop} (bs : List UInt8) (hgd : o.guard = none) (s x : Operand)
    (ho : o.op = .call { callee := .builtin .append, args := #[s, x], argTypes := #[63, 63] })
    (B : Nat) (v : Value) (l : List UInt8) (hs : a.eval s = v) (hown : Buf w0 B 5 v l) (hw : w = w0.alloc (.cells (bs.map byteV).toArray 5))
    (hx : a.eval x = .slice (some ⟨w0.heap.size, 0, none⟩) bs.length bs.length) (hlen : l.length + bs.length ≤ 140737488355328) (hB : B ≤ w0.heap.size)
    (h : ∀ v' w', Buf w' B 5 v' (l ++ bs) → K5 B w0 w' → wpList Tryd.prog ops Q rest (a.put o.dst v') w') : wpList Tryd.prog ops Q (o :: rest) a w := by
  subst hw
  have hb : Below w0.heap.size w0 (w0.alloc (.cells (bs.map byteV).toArray 5)) := (Below.refl _ _).alloc (Nat.le_refl _) _
  have hown2 := buf_ext hown hb
  have hB2 : B ≤ (w0.alloc (.cells (bs.map byteV).toArray 5)).heap.size := by simp only [World.size_alloc]; omega
  obtain ⟨i0, hi, hz0, hz1, hz2⟩ := info_parts byTyK.info
  refine wpList_append_own _ hgd s x _ ho B 5 i0 (.int .u8 0) 1 1 byTyK.slice hi hz0 hz1 hz2 rfl (by decide) v l.length (l.map byteV) hs hown2 ⟨w0.heap.size, 0, none⟩ bs.length bs.length (bs.map byteV) hx (by simp) (lit_cells w0 bs) ?_ ?_ ?_ hB2 ?_
  · intro u hu
    obtain ⟨c, _, rfl⟩ := List.mem_map.1 hu
    rfl
  · unfold maxLen; omega
  · omega
  · intro v' w' h2 h3 _
    refine h v' w' ?_ ((K5.of_below hb hB).trans (K5.of_grown hown2 hB2 h3))
    unfold Buf
    rw [List.length_append, List.map_append]
    exact h2
/-- append(b, s...) -/
theorem wpList_strK {ops : Array Oper} {rest : List Oper} {o : Oper} {a : Act} {w : World} {Q : Exit → Act → World → Prop} (s : ByteArray) (hgd : o.guard = none) (sl x : Operand)
    (ho : o.op = .call { callee := .builtin .append, args := #[sl, x], argTypes := #[63, 9] })
    (B : Nat) (v : Value) (l : List UInt8) (hs : a.eval sl = v) (hown : Buf w B 5 v l) (hx : a.eval x = .string s) (hlen : l.length + s.size ≤ 140737488355328) (hB : B ≤ w.heap.size)
    (h : ∀ v' w', Buf w' B 5 v' (l ++ s.data.toList) → K5 B w w' → wpList Tryd.prog ops Q rest (a.put o.dst v') w') : wpList Tryd.prog ops Q (o :: rest) a w := by
  obtain ⟨i0, hi, hz0, hz1, hz2⟩ := info_parts byTyK.info
  refine Lib.wpList_append_own_string w hgd sl x _ _ ho B _ i0 byTyK.slice Tryd.underlying9 hi hz0 hz1 hz2 v l.length (l.map byteV) hs hown s hx (by unfold maxLen; omega) hlen hB ?_
  intro v' w' h2 h3 _
  refine h v' w' ?_ (K5.of_grown hown hB h3)
  have e : (l ++ s.data.toList).length = l.length + s.size := by rw [List.length_append, Array.length_toList]; rfl
  unfold Buf
  rw [e, List.map_append]
  exact h2
theorem rune_cells (r : Int) : Lib.runeCells r = (Lib.encodeRune r).map byteV := by
  unfold Lib.runeCells Lib.encodeRune
  rw [List.map_map]
  refine List.map_congr_left fun x hx => ?_
  have hb := Lib.encodeRuneZ_byte r x hx
  have e : ((x.toNat.toUInt8.toNat : Nat) : Int) = x := by
    have : x.toNat.toUInt8.toNat = x.toNat % 256 := by simp
    omega
  show Value.int .u8 x = Value.int .u8 ((x.toNat.toUInt8.toNat : Nat) : Int)
  rw [e]
theorem appRune_c (B : Nat) (v : Value) (l : List UInt8) (r : Nat) (hr : r ≤ 1114111) (w : World) (hown : Buf w B 5 v l) (hlen : l.length + 4 ≤ 140737488355328) (hB : B ≤ w.heap.size) :
    Calls Tryd.prog 92 #[v, .int .i32 r] w fun e w' => ∃ v', e = .returned v' ∧ Buf w' B 5 v' (l ++ Lib.encodeRune r) ∧ K5 B w w' := by
  refine (Tryd.utf8_AppendRune_plain B v l.length (l.map byteV) r (by omega) (by omega) w hown hlen hB).mono ?_
  rintro e w' ⟨v', rfl, hrow, o, hg⟩
  have hlenR : (Lib.runeCells (r : Int)).length = (Lib.encodeRune (r : Int)).length := by rw [rune_cells, List.length_map]
  refine ⟨v', rfl, ?_, ?_⟩
  · unfold Buf
    rw [List.length_append, List.map_append, ← hlenR, ← rune_cells]
    exact hrow
  · have hb : Below w.heap.size w (w.alloc o) := (Below.refl _ _).alloc (Nat.le_refl _) _
    exact (K5.of_below hb hB).trans (K5.of_grown (buf_ext hown hb) (by simp only [World.size_alloc]; omega) hg)
theorem appInt_c (B : Nat) (v : Value) (l : List UInt8) (n : Int) (hn : -9223372036854775808 ≤ n ∧ n ≤ 9223372036854775807) (w : World) (hown : Buf w B 5 v l) (hlen : l.length + 21 ≤ 140737488355328) (hB : B ≤ w.heap.size) (htab : Lib.TabBelow Tryd.prog B w "internal/strconv.uint64pow10" .u64 Lib.pow10Tab) :
    Calls Tryd.prog 73 #[v, .int .i64 n, .int .i64 10] w fun e w' => ∃ v', e = .returned v' ∧ Buf w' B 5 v' (l ++ Lib.itoa n) ∧ K5 B w w' := by
  refine (Tryd.strconv_AppendInt_10 B l.length n hn.1 hn.2 v (l.map byteV) w hown hB hlen htab).mono ?_
  rintro e w' ⟨v', rfl, hrow, hb, hk⟩
  refine ⟨v', rfl, ?_, hb, hk⟩
  unfold Buf
  rw [List.length_append, List.map_append]
  exact hrow
end Go.Proofs.YtbkbokfegjodnaaDoor
namespace Go.Proofs.YtbkbokfegjodnaaDoor
open Go.RowKit
mutual
/-- every text is characters -/
def okW : JV → Prop
  | .mk k _ s ns is => (k = 4 → Lib.validD s.data.toList = true) ∧ (k = 6 → ∀ x ∈ ns, Lib.validD x.data.toList = true) ∧ okWs is
def okWs : List JV → Prop
  | [] => True
  | t :: r => okW t ∧ okWs r
end
mutual
/-- every number has 64 bits -/
def okI : JV → Prop
  | .mk _ n _ _ is => (-9223372036854775808 ≤ n ∧ n ≤ 9223372036854775807) ∧ okIs is
def okIs : List JV → Prop
  | [] => True
  | t :: r => okI t ∧ okIs r
end
theorem okWs_at : ∀ {l : List JV}, okWs l → ∀ (i : Nat) (h : i < l.length), okW l[i]
  | t :: r, h, 0, _ => by rw [okWs] at h; exact h.1
  | t :: r, h, i + 1, hi => by rw [okWs] at h; exact okWs_at h.2 i (by simpa using hi)
theorem okIs_at : ∀ {l : List JV}, okIs l → ∀ (i : Nat) (h : i < l.length), okI l[i]
  | t :: r, h, 0, _ => by rw [okIs] at h; exact h.1
  | t :: r, h, i + 1, hi => by rw [okIs] at h; exact okIs_at h.2 i (by simpa using hi)
theorem okIs_take : ∀ {l : List JV}, okIs l → ∀ (j : Nat), okIs (l.take j)
  | [], _, _ => by rw [List.take_nil]; trivial
  | t :: r, h, 0 => by rw [List.take_zero]; trivial
  | t :: r, h, j + 1 => by rw [okIs] at h; rw [List.take_succ_cons, okIs]; exact ⟨h.1, okIs_take h.2 j⟩
mutual
theorem rep_okI {w : World} {ok : Nat → Prop} : ∀ (t : JV) (cs : List Value), Rep w ok t cs → okI t
  | .mk k n s ns is, cs, h => by
    rw [rep_mk] at h
    obtain ⟨_, hn, _, _, _, _, _, _, _, _, _, hit⟩ := h
    rw [okI]
    refine ⟨hn, ?_⟩
    rcases hit with h0 | ⟨b, off, _, _, h⟩
    · rw [h0, okIs]; trivial
    · exact reps_okI is b off h
theorem reps_okI {w : World} {ok : Nat → Prop} : ∀ (l : List JV) (b off : Nat), RepAll w ok l b off → okIs l
  | [], _, _, _ => by rw [okIs]; trivial
  | t :: r, b, off, h => by
    rw [RepAll] at h
    obtain ⟨⟨cs, h1, _⟩, h2⟩ := h
    rw [okIs]
    exact ⟨rep_okI t cs h1, reps_okI r b (off + 5) h2⟩
end
mutual
theorem chk_okW : ∀ (t : JV) (d : Int), chk t d = 0 → okW t
  | .mk k n s ns is, d, h => by
    rw [chk] at h
    rw [okW]
    split at h
    · exact absurd h (by decide)
    · split at h
      · exact absurd h (by decide)
      · rename_i hf
        have hft : fitsB k n s ns.length is.length = true := by simpa using hf
        refine ⟨fun hk => ?_, fun hk => ?_, chkL_okW _ _ _ is d h⟩
        · subst hk
          simp [fitsB] at hft
          exact hft.2
        · subst hk
          simp only [decide_true] at h
          exact chkL_names ns [] is d (by simp [fitsB] at hft; omega) h
theorem chkL_okW : ∀ (o : Bool) (ns seen : List ByteArray) (is : List JV) (d : Int), chkL o ns seen is d = 0 → okWs is
  | _, _, _, [], _, _ => by rw [okWs]; trivial
  | o, ns, seen, t :: r, d, h => by
    rw [chkL] at h
    rw [okWs]
    split at h
    · exact absurd h (by decide)
    · split at h
      · exact absurd h (by decide)
      · split at h
        · rename_i h3
          exact ⟨chk_okW t (d + 1) h3, chkL_okW _ _ _ _ _ h⟩
        · contradiction
theorem chkL_names : ∀ (ns seen : List ByteArray) (is : List JV) (d : Int), ns.length = is.length → chkL true ns seen is d = 0 → ∀ x ∈ ns, Lib.validD x.data.toList = true
  | [], _, _, _, _, _ => fun x hx => by cases hx
  | n :: ns, _, [], _, hl, _ => by cases hl
  | n :: ns, seen, t :: r, d, hl, h => by
    rw [chkL] at h
    simp only [List.headD_cons, List.tail_cons] at h
    split at h
    · exact absurd h (by decide)
    · rename_i hv
      split at h
      · exact absurd h (by decide)
      · split at h
        · intro x hx
          rcases List.mem_cons.1 hx with rfl | hx
          · simpa using hv
          · exact chkL_names ns _ r d (by simpa using hl) h x hx
        · contradiction
end
mutual
theorem jput_len : ∀ t : JV, okI t → (jput t).length + 1 ≤ 24 * t.bulk
  | .mk k n s ns is, hi => by
    rw [okI] at hi
    have h1 := jq_len s.data.toList
    have h2 := jputL_len true is hi.2
    have h3 := jputM_len true ns is hi.2
    have h4 := Lib.itoa_length_le n hi.1.1 hi.1.2
    have hs : s.data.toList.length = s.size := by simp
    rw [jput, JV.bulk]
    repeat' split
    all_goals (try simp only [List.length_cons, List.length_append, List.length_nil])
    all_goals omega
theorem jputL_len : ∀ (f : Bool) (l : List JV), okIs l → (jputL f l).length ≤ 24 * JV.bulks l
  | _, [], _ => by simp [jputL]
  | f, t :: r, h => by
    rw [okIs] at h
    have h1 := jput_len t h.1
    have h2 := jputL_len false r h.2
    rw [jputL, JV.bulks]
    split
    all_goals simp only [List.length_cons, List.length_append, List.length_nil]
    all_goals omega
theorem jputM_len : ∀ (f : Bool) (ns : List ByteArray) (l : List JV), okIs l → (jputM f ns l).length ≤ 24 * strsBulk ns + 24 * JV.bulks l
  | f, [], l, _ => by cases l <;> simp [jputM]
  | f, _ :: _, [], _ => by simp [jputM]
  | f, n :: ns, t :: r, h => by
    rw [okIs] at h
    have h1 := jput_len t h.1
    have h2 := jputM_len false ns r h.2
    have h3 := jq_len n.data.toList
    have hs : n.data.toList.length = n.size := by simp
    rw [jputM, JV.bulks, strsBulk]
    split
    all_goals simp only [List.length_cons, List.length_append, List.length_nil]
    all_goals omega
end
theorem jputL_snoc : ∀ (f : Bool) (l : List JV) (t : JV), jputL f (l ++ [t]) = jputL f l ++ ((if (f && l.isEmpty) then [] else [44]) ++ jput t)
  | f, [], t => by cases f <;> simp [jputL]
  | f, x :: r, t => by
    have ih := jputL_snoc false r t
    rw [List.cons_append, jputL, jputL, ih]
    cases f <;> simp
theorem jputM_snoc : ∀ (f : Bool) (ns : List ByteArray) (l : List JV) (n : ByteArray) (t : JV), ns.length = l.length → jputM f (ns ++ [n]) (l ++ [t]) = jputM f ns l ++ ((if (f && l.isEmpty) then [] else [44]) ++ (jq n.data.toList ++ 58 :: jput t))
  | f, [], [], n, t, _ => by cases f <;> simp [jputM]
  | f, m :: ns, x :: r, n, t, h => by
    have ih := jputM_snoc false ns r n t (by simpa using h)
    rw [List.cons_append, List.cons_append, jputM, jputM, ih]
    cases f <;> simp
theorem jputM_take : ∀ (f : Bool) (ns : List ByteArray) (l : List JV), l.length ≤ ns.length → jputM f (ns.take l.length) l = jputM f ns l
  | f, ns, [], _ => by cases ns <;> simp [jputM]
  | f, [], t :: r, h => by simp at h
  | f, n :: ns, t :: r, h => by
    have ih := jputM_take false ns r (by simpa using h)
    simp [jputM, ih]
theorem okWs_of_okW {k n : Int} {s : ByteArray} {ns : List ByteArray} {is : List JV} (h : okW (.mk k n s ns is)) : okWs is := by rw [okW] at h; exact h.2.2
end Go.Proofs.YtbkbokfegjodnaaDoor
