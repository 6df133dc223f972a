/- The walk of told. Conditions: the stream is of at most 2 to the 23 bytes. -/
import Derived.Test.YtkpickojeghppaaDoorWlong
import Derived.Test.YtkpickojeghppaaDoorCutp
namespace Go.Proofs.YtkpickojeghppaaDoor
open Go.RowKit
def IntsIn (w : World) (A : Option Addr) (l : List Int) : Prop := l = [] ∨ ∃ G o, A = some ⟨G, o, none⟩ ∧ w.rangeAt G o (l.map (Value.int .i64))
/-- a server that is told of a stream -/
structure ToldAt (w wr : World) (R : Nat) (vi vo vh : Value) (s : Sv) (f : Nat) : Prop where
  sx : SvX wr R vi vo vh s
  sB : ∀ g, SvF R vi vo vh g → w.heap.size ≤ g
  bl : Below w.heap.size w wr
  ok : s.Ok
  room : s.Room f
  fresh : s.Fresh
  bod : s.Bod 8388608
theorem ToldAt.fed {w wr W : World} {R : Nat} {vi vo vh : Value} {s : Sv} {f : Nat} (h : ToldAt w wr R vi vo vh s f) (hb : Below wr.heap.size wr W) (pv : Value) (p : List UInt8) (hp : Src Tryd.prog 1 28 pv p.length (bytesV p) W) (hf : f + p.length ≤ 8388608) :
    Calls Tryd.prog 24 #[.pointer (some ⟨R, 0, none⟩), pv] W fun e w' => e = .returned (.tuple #[]) ∧ ∃ vi' vo' vh', Hid (ToldAt w w' R vi' vo' vh' (s.feed p) (f + p.length)) := by
  have hi := h.room.inp
  have ho := h.room.out
  refine (svFeed_c R vi vo vh s h.ok pv p W hp (by omega) (h.sx.below hb)).mono ?_
  rintro e w' ⟨vi', vo', vh', he, h2, ht, hn⟩
  have hB : w.heap.size ≤ wr.heap.size := h.bl.size
  refine ⟨he, vi', vo', vh', Lib.hid ⟨(h.sx.below hb).of h2 ht hn, fun g hg => (hn g hg).elim (h.sB g) (fun e => Nat.le_trans hB (Nat.le_trans hb.size e)), (h.bl.trans (hb.mono hB)).trans (ht.below h.sB (Nat.le_trans hB hb.size)), feed_ok h.ok p (by omega), room_feed h.ok h.room p (by omega), fresh_feed h.fresh p, bod_feed h.bod p (by omega)⟩⟩
theorem cuts_step (al : List Int) (k : Nat) (h : k < al.length) (rest : List UInt8) : cuts (al.drop k) rest = if al[k] < 0 ∨ (rest.length : Int) < al[k] then cuts (al.drop (k + 1)) rest else rest.take (al[k]).toNat :: cuts (al.drop (k + 1)) (rest.drop (al[k]).toNat) := by
  rw [List.drop_eq_getElem_cons h, cuts]
theorem conv_two (x : Nat) (w : World) : (convert 28 9 (.slice (some ⟨w.heap.size, 0, none⟩) 2 2)).run Tryd.prog (w.alloc (.cells #[.int .u8 ((x : Int) % 256), .int .u8 ((x : Int) / 256 % 256)] 5)) = .ok (.string ⟨#[UInt8.ofNat x, UInt8.ofNat (x / 256)]⟩) (w.alloc (.cells #[.int .u8 ((x : Int) % 256), .int .u8 ((x : Int) / 256 % 256)] 5)) := by
  have e : (#[.int .u8 ((x : Int) % 256), .int .u8 ((x : Int) / 256 % 256)] : Array Value).toList = bytesV [UInt8.ofNat x, UInt8.ofNat (x / 256)] ++ [] := by
    simp [bytesV]
  have hr := rangeAt_of_block (heap_alloc_new w (.cells #[.int .u8 ((x : Int) % 256), .int .u8 ((x : Int) / 256 % 256)] 5)) e
  exact conv_bytes hr 0 2 2 2 (by omega) (by simp) rfl
theorem ask_str (T : List UInt8) (x : Nat) (b : ByteArray) (t : Bool) : ((⟨T.toArray⟩ ++ ⟨#[UInt8.ofNat x, UInt8.ofNat (x / 256)]⟩ : ByteArray) ++ b) ++ ⟨#[47]⟩ = ⟨(T ++ askText (x, b, t)).toArray⟩ := by
  apply ByteArray.ext
  simp [ByteArray.data_append, askText]
theorem mark_zero (l : List (Nat × ByteArray × Bool)) : mark l 0 = l := by cases l <;> rfl
structure NxAt (w wr : World) (R : Nat) (vi vo vh : Value) (s : Sv) : Prop where
  sx : SvX wr R vi vo vh s
  sB : ∀ g, SvF R vi vo vh g → w.heap.size ≤ g
  bl : Below w.heap.size w wr
theorem NxAt.step {w wr w2 : World} {R : Nat} {vi vo vh vi2 vo2 vh2 : Value} {s s2 : Sv} (h : NxAt w wr R vi vo vh s) (h2 : SvAt w2 R vi2 vo2 vh2 s2) (ht : Turn (SvF R vi vo vh) wr w2) (hn : ∀ g, SvF R vi2 vo2 vh2 g → SvF R vi vo vh g ∨ wr.heap.size ≤ g) : NxAt w w2 R vi2 vo2 vh2 s2 :=
  ⟨h.sx.of h2 ht hn, fun g hg => (hn g hg).elim (h.sB g) (fun e => Nat.le_trans h.bl.size e), h.bl.trans (ht.below h.sB h.bl.size)⟩
theorem NxAt.below {w wr w2 : World} {R : Nat} {vi vo vh : Value} {s : Sv} (h : NxAt w wr R vi vo vh s) (hb : Below wr.heap.size wr w2) : NxAt w w2 R vi vo vh s :=
  ⟨h.sx.below hb, h.sB, h.bl.trans (hb.mono h.bl.size)⟩
def tailCuts (al : List Int) (k : Nat) (rest : List UInt8) : List (List UInt8) := if k ≤ al.length then cuts (al.drop k) rest else []
def ToldPost (s : Sv) (w : World) (e : Ending) (w' : World) : Prop :=
  ∃ v, e = .returned (.tuple #[.string ⟨(heldText s).toArray⟩, v, .int .i64 (s.why : Int)]) ∧ BSlab w' v s.out ∧ Below w.heap.size w w' ∧ ∀ g, v.ownBlock = some g → w.heap.size ≤ g
set_option maxRecDepth 20000 in
set_option maxHeartbeats 8000000 in
theorem told_c (v0 : Value) (l : List UInt8) (hl : l.length ≤ 8388608) (At : Option Addr) (ca : Nat) (al : List Int) (hal : al.length ≤ 1000) (w : World) (hv : BSlab w v0 l) (ha : IntsIn w At al) (hT : WTabs w) :
    Calls Tryd.prog 22 #[v0, .slice At al.length ca] w (ToldPost (feeds sv0 (cuts al l)) w) := by
  have HT := Lib.hid hT
  have HV := Lib.hid hv
  have HA := Lib.hid ha
  obtain ⟨A0, c0, rfl, _, _, _⟩ := hv.bytes
  clear hT hv ha
  go_enter Tryd.func22, Tryd.ntmps22
  go_wp2_with fail
  refine (newServer_c w).mono ?_; rintro e w1 ⟨rfl, hs1, hb1⟩
  have HS := Lib.hid (show ToldAt w w1 w.heap.size (.slice none 0 0) (.slice none 0 0) (.slice none 0 0) sv0 0 from
    ⟨⟨hs1, HT.out.below hb1, fun g hg => by have := HT.out.size; rcases hg with e | e | e | e; (omega); (cases e); (cases e); (cases e)⟩, fun g hg => by rcases hg with e | e | e | e; (omega); (cases e); (cases e); (cases e), hb1, sv0_ok, sv0_room, (fun x hx => by cases hx), fun x hx => by cases hx⟩)
  clear hs1 hb1
  go_wp2
  go_loopw [9, 10, 11] (fun r i _ wr => ∃ (k f : Nat) (A : Option Addr) (c : Nat) (rest : List UInt8) (s : Sv) (vi vo vh : Value), k ≤ al.length + 1 ∧ i = .int .i64 k ∧ r = .slice A rest.length c ∧ f + (if k ≤ al.length then rest.length else 0) ≤ l.length ∧ rest.length ≤ c ∧ c ≤ maxLen ∧ Hid (BSlab w (.slice A rest.length c) rest) ∧ Hid (ToldAt w wr w.heap.size vi vo vh s f) ∧ Hid (feeds sv0 (cuts al l) = feeds s (tailCuts al k rest))) (fun _ i _ _ => al.length + 1 - (intOf i).toNat)
  case atStart => exact ⟨0, 0, A0, c0, l, sv0, _, _, _, by omega, rfl, rfl, by simp, by assumption, by assumption, HV, HS, Lib.hid (by unfold tailCuts; rw [if_pos (Nat.zero_le _)]; rfl)⟩
  case round =>
    obtain ⟨k, f, A, c, rest, s, vi, vo, vh, hk, rfl, rfl, hf, hrc, hcm, HR, HS, HQ⟩ := hrel
    unfold maxLen at hcm
    by_cases hlt : k < al.length
    · obtain ⟨Ga, oa, rfl, hra⟩ : ∃ G o, At = some ⟨G, o, none⟩ ∧ w.rangeAt G o (al.map (Value.int .i64)) := by
        rcases HA.out with h | h
        · rw [h] at hlt; simp at hlt
        · exact h
      have hc := cell_below HS.out.bl (hra k (.int .i64 al[k]) (by simp [hlt]))
      have HC := Lib.hid (cuts_step al k hlt rest)
      rw [if_pos (by omega)] at hf
      have HQ2 := Lib.hid (show feeds sv0 (cuts al l) = feeds s (cuts (al.drop k) rest) by rw [HQ.out]; unfold tailCuts; rw [if_pos (by omega)])
      clear hra HQ
      generalize al[k] = z at *
      by_cases hz : z < 0 ∨ (rest.length : Int) < z
      · have HQ3 := Lib.hid (show feeds sv0 (cuts al l) = feeds s (tailCuts al (k + 1) rest) by rw [HQ2.out, HC.out, if_pos hz]; unfold tailCuts; rw [if_pos (by omega)])
        clear HQ2 HC
        rcases hz with hz | hz
        · have hz2 := hz
          go_wp2
          go_roundw
          case rel => exact ⟨k + 1, f, A, c, rest, s, vi, vo, vh, by omega, by go_num, rfl, by rw [if_pos (by omega)]; exact hf, hrc, by unfold maxLen; omega, HR, HS, HQ3⟩
          case measure => simp [intOf]; omega
        · have hz2 : 0 ≤ z := by omega
          go_wp2
          go_roundw
          case rel => exact ⟨k + 1, f, A, c, rest, s, vi, vo, vh, by omega, by go_num, rfl, by rw [if_pos (by omega)]; exact hf, hrc, by unfold maxLen; omega, HR, HS, HQ3⟩
          case measure => simp [intOf]; omega
      · obtain ⟨nn, rfl⟩ := Int.eq_ofNat_of_zero_le (show 0 ≤ z by omega)
        have hnl : nn ≤ rest.length := by omega
        have HQ3 := Lib.hid (show feeds sv0 (cuts al l) = feeds (s.feed (rest.take nn)) (tailCuts al (k + 1) (rest.drop nn)) by rw [HQ2.out, HC.out, if_neg hz]; unfold tailCuts; rw [if_pos (by omega)]; rfl)
        clear HQ2 HC hz
        obtain ⟨A', c', hv', _, _, hform⟩ := Slab.form HR.out
        injection hv' with e1 e2 e3
        subst e1; subst e3
        rcases hform with ⟨rfl, h0, rfl, _⟩ | ⟨G, o, rfl, _⟩
        · obtain rfl : rest = [] := List.eq_nil_of_length_eq_zero h0
          obtain rfl : nn = 0 := by simp at hnl; omega
          have hpl : (([] : List UInt8).take 0).length = 0 := rfl
          have HBI := Lib.hid (show BytesIn w none (([] : List UInt8).take 0) from .inl rfl)
          have HR2 := Lib.hid (show BSlab w (.slice none 0 0) (([] : List UInt8).drop 0) from bslab_nil w)
          have HSRC := Lib.hid (fun (W : World) (hb : Below w.heap.size w W) => show Src Tryd.prog 1 28 (.slice none 0 0) 0 (bytesV (([] : List UInt8).take 0)) W from by
            have h := src_bytes (n := 0) (cap := 0) (BytesIn.below (HBI.out) hb) hpl.symm
            rwa [hpl] at h)
          go_wp2_with (first
            | (at_builtin; refine wpList_slab bytTy 28 (by rfl) _ _ (by rfl) (.slice (some ⟨wr.heap.size, 0, none⟩) 0 0) 0 [] (by rfl) (slab_lit wr _ rfl) (.slice none 0 0) (by rfl) 0 (bytesV (([] : List UInt8).take 0)) (HSRC.out _ (HS.out.bl.alloc HS.out.bl.size _)) (by unfold maxLen; omega) (by omega) ?_; intro v2 w2 hs2 hu2; rw [Nat.zero_add, List.nil_append] at hs2; obtain ⟨hb2, _⟩ := copied (w := wr) rfl ((Below.refl _ _).alloc (Nat.le_refl _) _) (by simp) hu2; have HFD := Lib.hid (HS.out.fed hb2 v2 (([] : List UInt8).take 0) (src_bslab (show BSlab w2 v2 (([] : List UInt8).take 0) by unfold BSlab; rw [hpl]; exact hs2)) (by rw [hpl]; omega)); clear hs2 hu2 hb2)
            | (go_at_call 24; refine HFD.out.mono ?_; rintro e w3 ⟨rfl, vi3, vo3, vh3, HS3⟩))
          go_roundw
          case rel => exact ⟨k + 1, f + (([] : List UInt8).take 0).length, none, 0, ([] : List UInt8).drop 0, s.feed (([] : List UInt8).take 0), vi3, vo3, vh3, by omega, by go_num, by rw [List.length_drop]; rfl, by rw [hpl, List.length_drop]; rw [if_pos (by omega)]; omega, by rw [List.length_drop]; omega, by unfold maxLen; omega, HR2, HS3, HQ3⟩
          case measure => first | (simp [intOf]; done) | (simp [intOf]; omega)
        · have hpl : (rest.take nn).length = nn := by rw [List.length_take]; omega
          have HBI := Lib.hid (show BytesIn w (some ⟨G, o, none⟩) (rest.take nn) from BytesIn.left (b := rest.drop nn) (by rw [List.take_append_drop]; exact HR.out.inn))
          have HBT := Lib.hid (fun (o2 : Nat) (hp : o2 = o + nn ∨ c - nn = 0) => BSlab.tail (o2 := o2) HR.out (show nn ≤ rest.length by omega) hp)
          by_cases hc3 : c - nn = 0
          · have HR2 := Lib.hid (show BSlab w (.slice (some ⟨G, o, none⟩) (rest.drop nn).length 0) (rest.drop nn) by have h := HBT.out o (.inr hc3); rw [hc3] at h; rw [List.length_drop]; exact h)
            have HSRC := Lib.hid (fun (W : World) (hb : Below w.heap.size w W) => show Src Tryd.prog 1 28 (.slice (some ⟨G, o, none⟩) nn c) nn (bytesV (rest.take nn)) W from by
              have h := src_bytes (n := nn) (cap := c) (BytesIn.below (HBI.out) hb) hpl.symm
              rwa [hpl] at h)
            go_wp2_with (first
              | (at_builtin; refine wpList_slab bytTy 28 (by rfl) _ _ (by rfl) (.slice (some ⟨wr.heap.size, 0, none⟩) 0 0) 0 [] (by rfl) (slab_lit wr _ rfl) (.slice (some ⟨G, o, none⟩) nn c) (by rfl) nn (bytesV (rest.take nn)) (HSRC.out _ (HS.out.bl.alloc HS.out.bl.size _)) (by unfold maxLen; omega) (by omega) ?_; intro v2 w2 hs2 hu2; rw [Nat.zero_add, List.nil_append] at hs2; obtain ⟨hb2, _⟩ := copied (w := wr) rfl ((Below.refl _ _).alloc (Nat.le_refl _) _) (by simp) hu2; have HFD := Lib.hid (HS.out.fed hb2 v2 (rest.take nn) (src_bslab (show BSlab w2 v2 (rest.take nn) by unfold BSlab; rw [hpl]; exact hs2)) (by rw [hpl]; omega)); clear hs2 hu2 hb2)
              | (go_at_call 24; refine HFD.out.mono ?_; rintro e w3 ⟨rfl, vi3, vo3, vh3, HS3⟩))
            go_roundw
            case rel => exact ⟨k + 1, f + (rest.take nn).length, some ⟨G, o, none⟩, 0, rest.drop nn, s.feed (rest.take nn), vi3, vo3, vh3, by omega, by go_num, by rw [List.length_drop], by rw [hpl, List.length_drop]; rw [if_pos (by omega)]; omega, by rw [List.length_drop]; omega, by unfold maxLen; omega, HR2, HS3, HQ3⟩
            case measure => first | (simp [intOf]; done) | (simp [intOf]; omega)
          · have hcx : nn ≤ c := by omega
            have HR2 := Lib.hid (show BSlab w (.slice (some ⟨G, o + nn, none⟩) (rest.drop nn).length (c - nn)) (rest.drop nn) by have h := HBT.out (o + nn) (.inl rfl); rw [List.length_drop]; exact h)
            have HSRC := Lib.hid (fun (W : World) (hb : Below w.heap.size w W) => show Src Tryd.prog 1 28 (.slice (some ⟨G, o, none⟩) nn c) nn (bytesV (rest.take nn)) W from by
              have h := src_bytes (n := nn) (cap := c) (BytesIn.below (HBI.out) hb) hpl.symm
              rwa [hpl] at h)
            go_wp2_with (first
              | (at_builtin; refine wpList_slab bytTy 28 (by rfl) _ _ (by rfl) (.slice (some ⟨wr.heap.size, 0, none⟩) 0 0) 0 [] (by rfl) (slab_lit wr _ rfl) (.slice (some ⟨G, o, none⟩) nn c) (by rfl) nn (bytesV (rest.take nn)) (HSRC.out _ (HS.out.bl.alloc HS.out.bl.size _)) (by unfold maxLen; omega) (by omega) ?_; intro v2 w2 hs2 hu2; rw [Nat.zero_add, List.nil_append] at hs2; obtain ⟨hb2, _⟩ := copied (w := wr) rfl ((Below.refl _ _).alloc (Nat.le_refl _) _) (by simp) hu2; have HFD := Lib.hid (HS.out.fed hb2 v2 (rest.take nn) (src_bslab (show BSlab w2 v2 (rest.take nn) by unfold BSlab; rw [hpl]; exact hs2)) (by rw [hpl]; omega)); clear hs2 hu2 hb2)
              | (go_at_call 24; refine HFD.out.mono ?_; rintro e w3 ⟨rfl, vi3, vo3, vh3, HS3⟩))
            go_roundw
            case rel => exact ⟨k + 1, f + (rest.take nn).length, some ⟨G, o + nn, none⟩, c - nn, rest.drop nn, s.feed (rest.take nn), vi3, vo3, vh3, by omega, by go_num, by rw [List.length_drop], by rw [hpl, List.length_drop]; rw [if_pos (by omega)]; omega, by rw [List.length_drop]; omega, by unfold maxLen; omega, HR2, HS3, HQ3⟩
            case measure => first | (simp [intOf]; done) | (simp [intOf]; omega)
    · by_cases hke : k = al.length
      · subst hke
        rw [if_pos (Nat.le_refl _)] at hf
        have HQ3 := Lib.hid (show feeds sv0 (cuts al l) = feeds (s.feed (rest.take rest.length)) (tailCuts al (al.length + 1) (rest.drop rest.length)) by rw [HQ.out]; unfold tailCuts; rw [if_pos (Nat.le_refl _), if_neg (by omega), List.drop_length, List.take_length]; rfl)
        clear HQ
        obtain ⟨A', c', hv', _, _, hform⟩ := Slab.form HR.out
        injection hv' with e1 e2 e3
        subst e1; subst e3
        rcases hform with ⟨rfl, h0, rfl, _⟩ | ⟨G, o, rfl, _⟩
        · obtain rfl : rest = [] := List.eq_nil_of_length_eq_zero h0
          have hpl : (([] : List UInt8).take 0).length = 0 := rfl
          have HBI := Lib.hid (show BytesIn w none (([] : List UInt8).take 0) from .inl rfl)
          have HR2 := Lib.hid (show BSlab w (.slice none 0 0) (([] : List UInt8).drop 0) from bslab_nil w)
          have HSRC := Lib.hid (fun (W : World) (hb : Below w.heap.size w W) => show Src Tryd.prog 1 28 (.slice none 0 0) 0 (bytesV (([] : List UInt8).take 0)) W from by
            have h := src_bytes (n := 0) (cap := 0) (BytesIn.below (HBI.out) hb) hpl.symm
            rwa [hpl] at h)
          go_wp2_with (first
            | (at_builtin; refine wpList_slab bytTy 28 (by rfl) _ _ (by rfl) (.slice (some ⟨wr.heap.size, 0, none⟩) 0 0) 0 [] (by rfl) (slab_lit wr _ rfl) (.slice none 0 0) (by rfl) 0 (bytesV (([] : List UInt8).take 0)) (HSRC.out _ (HS.out.bl.alloc HS.out.bl.size _)) (by unfold maxLen; omega) (by omega) ?_; intro v2 w2 hs2 hu2; rw [Nat.zero_add, List.nil_append] at hs2; obtain ⟨hb2, _⟩ := copied (w := wr) rfl ((Below.refl _ _).alloc (Nat.le_refl _) _) (by simp) hu2; have HFD := Lib.hid (HS.out.fed hb2 v2 (([] : List UInt8).take 0) (src_bslab (show BSlab w2 v2 (([] : List UInt8).take 0) by unfold BSlab; rw [hpl]; exact hs2)) (by rw [hpl]; omega)); clear hs2 hu2 hb2)
            | (go_at_call 24; refine HFD.out.mono ?_; rintro e w3 ⟨rfl, vi3, vo3, vh3, HS3⟩))
          go_roundw
          case rel => exact ⟨al.length + 1, f + (([] : List UInt8).take 0).length, none, 0, ([] : List UInt8).drop 0, s.feed (([] : List UInt8).take 0), vi3, vo3, vh3, by omega, by go_num, by rw [List.length_drop]; rfl, by rw [hpl, List.length_drop]; rw [if_neg (by omega)]; omega, by rw [List.length_drop]; omega, by unfold maxLen; omega, HR2, HS3, HQ3⟩
          case measure => first | (simp [intOf]; done) | (simp [intOf]; omega)
        · have hpl : (rest.take rest.length).length = rest.length := by rw [List.length_take]; omega
          have HBI := Lib.hid (show BytesIn w (some ⟨G, o, none⟩) (rest.take rest.length) from BytesIn.left (b := rest.drop rest.length) (by rw [List.take_append_drop]; exact HR.out.inn))
          have HBT := Lib.hid (fun (o2 : Nat) (hp : o2 = o + rest.length ∨ c - rest.length = 0) => BSlab.tail (o2 := o2) HR.out (show rest.length ≤ rest.length by omega) hp)
          by_cases hc3 : c - rest.length = 0
          · have HR2 := Lib.hid (show BSlab w (.slice (some ⟨G, o, none⟩) (rest.drop rest.length).length 0) (rest.drop rest.length) by have h := HBT.out o (.inr hc3); rw [hc3] at h; rw [List.length_drop]; exact h)
            have HSRC := Lib.hid (fun (W : World) (hb : Below w.heap.size w W) => show Src Tryd.prog 1 28 (.slice (some ⟨G, o, none⟩) rest.length c) rest.length (bytesV (rest.take rest.length)) W from by
              have h := src_bytes (n := rest.length) (cap := c) (BytesIn.below (HBI.out) hb) hpl.symm
              rwa [hpl] at h)
            go_wp2_with (first
              | (at_builtin; refine wpList_slab bytTy 28 (by rfl) _ _ (by rfl) (.slice (some ⟨wr.heap.size, 0, none⟩) 0 0) 0 [] (by rfl) (slab_lit wr _ rfl) (.slice (some ⟨G, o, none⟩) rest.length c) (by rfl) rest.length (bytesV (rest.take rest.length)) (HSRC.out _ (HS.out.bl.alloc HS.out.bl.size _)) (by unfold maxLen; omega) (by omega) ?_; intro v2 w2 hs2 hu2; rw [Nat.zero_add, List.nil_append] at hs2; obtain ⟨hb2, _⟩ := copied (w := wr) rfl ((Below.refl _ _).alloc (Nat.le_refl _) _) (by simp) hu2; have HFD := Lib.hid (HS.out.fed hb2 v2 (rest.take rest.length) (src_bslab (show BSlab w2 v2 (rest.take rest.length) by unfold BSlab; rw [hpl]; exact hs2)) (by rw [hpl]; omega)); clear hs2 hu2 hb2)
              | (go_at_call 24; refine HFD.out.mono ?_; rintro e w3 ⟨rfl, vi3, vo3, vh3, HS3⟩))
            go_roundw
            case rel => exact ⟨al.length + 1, f + (rest.take rest.length).length, some ⟨G, o, none⟩, 0, rest.drop rest.length, s.feed (rest.take rest.length), vi3, vo3, vh3, by omega, by go_num, by rw [List.length_drop]; simp, by rw [hpl, List.length_drop]; rw [if_neg (by omega)]; omega, by rw [List.length_drop]; omega, by unfold maxLen; omega, HR2, HS3, HQ3⟩
            case measure => first | (simp [intOf]; done) | (simp [intOf]; omega)
          · have hcx : rest.length ≤ c := by omega
            have HR2 := Lib.hid (show BSlab w (.slice (some ⟨G, o + rest.length, none⟩) (rest.drop rest.length).length (c - rest.length)) (rest.drop rest.length) by have h := HBT.out (o + rest.length) (.inl rfl); rw [List.length_drop]; exact h)
            have HSRC := Lib.hid (fun (W : World) (hb : Below w.heap.size w W) => show Src Tryd.prog 1 28 (.slice (some ⟨G, o, none⟩) rest.length c) rest.length (bytesV (rest.take rest.length)) W from by
              have h := src_bytes (n := rest.length) (cap := c) (BytesIn.below (HBI.out) hb) hpl.symm
              rwa [hpl] at h)
            go_wp2_with (first
              | (at_builtin; refine wpList_slab bytTy 28 (by rfl) _ _ (by rfl) (.slice (some ⟨wr.heap.size, 0, none⟩) 0 0) 0 [] (by rfl) (slab_lit wr _ rfl) (.slice (some ⟨G, o, none⟩) rest.length c) (by rfl) rest.length (bytesV (rest.take rest.length)) (HSRC.out _ (HS.out.bl.alloc HS.out.bl.size _)) (by unfold maxLen; omega) (by omega) ?_; intro v2 w2 hs2 hu2; rw [Nat.zero_add, List.nil_append] at hs2; obtain ⟨hb2, _⟩ := copied (w := wr) rfl ((Below.refl _ _).alloc (Nat.le_refl _) _) (by simp) hu2; have HFD := Lib.hid (HS.out.fed hb2 v2 (rest.take rest.length) (src_bslab (show BSlab w2 v2 (rest.take rest.length) by unfold BSlab; rw [hpl]; exact hs2)) (by rw [hpl]; omega)); clear hs2 hu2 hb2)
              | (go_at_call 24; refine HFD.out.mono ?_; rintro e w3 ⟨rfl, vi3, vo3, vh3, HS3⟩))
            go_roundw
            case rel => exact ⟨al.length + 1, f + (rest.take rest.length).length, some ⟨G, o + rest.length, none⟩, c - rest.length, rest.drop rest.length, s.feed (rest.take rest.length), vi3, vo3, vh3, by omega, by go_num, by rw [List.length_drop]; simp, by rw [hpl, List.length_drop]; rw [if_neg (by omega)]; omega, by rw [List.length_drop]; omega, by unfold maxLen; omega, HR2, HS3, HQ3⟩
            case measure => first | (simp [intOf]; done) | (simp [intOf]; omega)
      · have HE := Lib.hid (show feeds sv0 (cuts al l) = s by rw [HQ.out]; unfold tailCuts; rw [if_neg (by omega)]; rfl)
        have hkd : decide (k ≤ al.length) = false := decide_eq_false (by omega)
        have hkn : al.length < k := by omega
        clear HQ HR
        have hm0 : ({ s with held := mark s.held 0 } : Sv) = s := by rw [mark_zero]
        have HOB := Lib.hid (show NxAt w wr w.heap.size vi vo vh { s with held := mark s.held 0 } by rw [hm0]; exact ⟨HS.out.sx, HS.out.sB, HS.out.bl⟩)
        clear hm0
        have hh16 := HS.out.ok.held
        have HFR := Lib.hid HS.out.fresh
        have HID := Lib.hid HS.out.ok.ids
        have HBD := Lib.hid HS.out.bod
        clear HS
        go_wp2
        go_loopw [8, 12, 13, 14, 15] (fun al i _ _ _ wq => ∃ (j : Nat) (ts : ByteArray) (vi' vo' vh' : Value), j ≤ s.held.length ∧ i = .int .i64 j ∧ al = .string ts ∧ ts.size ≤ 300000000 ∧ Hid (ts = ⟨((s.held.take j).flatMap askText).toArray⟩) ∧ Hid (NxAt w wq w.heap.size vi' vo' vh' { s with held := mark s.held j })) (fun _ i _ _ _ _ => 40 - (intOf i).toNat)
        case atStart => exact ⟨0, ⟨#[]⟩, vi, vo, vh, Nat.zero_le _, rfl, rfl, Nat.zero_le _, Lib.hid (by simp), HOB⟩
        case round =>
          obtain ⟨j, ts, vi', vo', vh', hj, rfl, rfl, hts, HTS, HN⟩ := hrel
          have HTL := Lib.hid (mark_tell s.held j HFR.out)
          have hcall := next_c w.heap.size vi' vo' vh' { s with held := mark s.held j } (by show (mark s.held j).length ≤ _; rw [mark_len]; omega) wr HN.out.sx.sv
          by_cases hjl : j < s.held.length
          · have hnx : ({ s with held := mark s.held j } : Sv).next = { s with held := mark s.held (j + 1) } ∧ ({ s with held := mark s.held j } : Sv).nextV = .tuple #[.int .u32 ((s.held[j]).1 : Int), .string (s.held[j]).2.1, .bool true] := by
              have h1 := HTL.out
              rw [if_pos hjl] at h1
              unfold Sv.next Sv.nextV
              simp only
              rw [h1]
              refine ⟨?_, ?_⟩
              · show ({ s with held := told (mark s.held j) j } : Sv) = _
                rw [mark_succ s.held j hjl]
              · have h2 := mark_at s.held j hjl
                have h3 : (mark s.held j).getD j (0, ⟨#[]⟩, false) = s.held[j] := by rw [List.getD_eq_getElem?_getD, List.getElem?_eq_getElem (by rw [mark_len]; exact hjl), h2]; rfl
                show Value.tuple #[.int .u32 (((mark s.held j).getD j (0, ⟨#[]⟩, false)).1 : Int), .string ((mark s.held j).getD j (0, ⟨#[]⟩, false)).2.1, .bool true] = _
                rw [h3]
            rw [hnx.1, hnx.2] at hcall
            have HCL := Lib.hid hcall
            clear hcall hnx HTL
            go_wp2_with fail
            refine HCL.out.mono ?_; rintro e w2 ⟨vi2, vo2, vh2, rfl, h2, ht2, hn2⟩
            have HN2 := Lib.hid (HN.out.step h2 ht2 hn2)
            have hidl := HID.out s.held[j] (List.getElem_mem hjl)
            have hxb := HBD.out s.held[j] (List.getElem_mem hjl)
            have HTX := Lib.hid (show (s.held.take (j + 1)).flatMap askText = (s.held.take j).flatMap askText ++ askText s.held[j] by rw [List.take_succ_eq_append_getElem hjl, List.flatMap_append]; simp)
            clear h2 ht2 hn2 HCL HN
            generalize s.held[j] = x at *
            obtain ⟨xi, xb, xt⟩ := x
            simp only at hidl hxb
            have kcv := conv_two xi w2
            have HST := Lib.hid (show (((ts ++ ⟨#[UInt8.ofNat xi, UInt8.ofNat (xi / 256)]⟩ : ByteArray) ++ xb) ++ ⟨#[47]⟩) = ⟨((s.held.take (j + 1)).flatMap askText).toArray⟩ by rw [HTX.out, HTS.out]; exact ask_str _ xi xb xt)
            have hsz3 : (⟨((s.held.take (j + 1)).flatMap askText).toArray⟩ : ByteArray).size ≤ 300000000 := by
              have h1 := text_size 8388608 (s.held.take (j + 1)) (fun x hx => HBD.out x (List.mem_of_mem_take hx))
              have h2 : (s.held.take (j + 1)).length ≤ 16 := by rw [List.length_take]; omega
              show ((s.held.take (j + 1)).flatMap askText).toArray.size ≤ _
              rw [List.size_toArray]
              have h3 := Nat.mul_le_mul_right (8388608 + 3) h2
              omega
            have HS3 := Lib.hid hsz3
            have q1 : ts.size + 2 ≤ 9223372036854775807 := by omega
            have q2 : ts.size + 2 + xb.size ≤ 9223372036854775807 := by omega
            have q3 : ts.size + 2 + xb.size + 1 ≤ 9223372036854775807 := by omega
            clear HTX HTS hsz3
            go_wp2
            go_roundw
            case rel => exact ⟨j + 1, _, vi2, vo2, vh2, by omega, by go_num, rfl, by rw [HST.out]; exact HS3.out, HST, Lib.hid (HN2.out.below ((Below.refl _ _).alloc (Nat.le_refl _) _))⟩
            case measure => simp [intOf]; omega
          · have hnx : ({ s with held := mark s.held j } : Sv).next = { s with held := mark s.held j } ∧ ({ s with held := mark s.held j } : Sv).nextV = .tuple #[.int .u32 0, .string ⟨#[]⟩, .bool false] := by
              have h1 := HTL.out
              rw [if_neg hjl] at h1
              unfold Sv.next Sv.nextV
              simp only
              rw [h1]
              exact ⟨rfl, rfl⟩
            rw [hnx.1, hnx.2] at hcall
            have HCL := Lib.hid hcall
            have HTX := Lib.hid (show ts = ⟨(heldText s).toArray⟩ by rw [HTS.out, List.take_of_length_le (by omega)]; rfl)
            clear hcall hnx HTL HTS
            go_wp2_with fail
            refine HCL.out.mono ?_; rintro e w2 ⟨vi2, vo2, vh2, rfl, h2, ht2, hn2⟩
            have HN2 := Lib.hid (HN.out.step h2 ht2 hn2)
            clear h2 ht2 hn2 HCL HN
            go_wp2_with fail
            refine (svOut_c w.heap.size vi2 vo2 vh2 { s with held := mark s.held j } w2 HN2.out.sx.sv).mono ?_; rintro e w3 ⟨rfl, h3, hs3, ht3⟩
            have HF3 := Lib.hid (And.intro hs3 (And.intro (HN2.out.bl.trans (ht3.below (B := w.heap.size) (fun g hg => Nat.le_of_eq hg.symm) HN2.out.bl.size)) (fun g hg => HN2.out.sB g (.inr (.inr (.inl hg))))))
            have HW3 := Lib.hid (svWhy_c w.heap.size vi2 _ vh2 _ w3 h3)
            clear h3 hs3 ht3
            go_wp2_with (first
              | (go_at_call 33; refine HW3.out.mono ?_; rintro e w' ⟨rfl, hw⟩; obtain rfl : w3 = w' := hw.symm)
              | (go_at_call 11; refine (num_c _ _).mono ?_; rintro e w' ⟨rfl, rfl⟩))
            refine bodyPost_ret (results_tmp3 rfl _ _ _) rfl ?_
            rw [HE.out]
            exact ⟨vo2, by rw [← HTX.out]; rfl, HF3.out.1, HF3.out.2.1, HF3.out.2.2⟩
end Go.Proofs.YtkpickojeghppaaDoor
