/- The walks of the reader's text and more. Conditions: the tables of package utf8 lie as their texts lay them; there are less than 2 to the 45 bytes. -/
import Derived.Test.YtjmhoccikbgigaaDoorValidw
import Derived.Test.YtjmhoccikbgigaaDoorParse
import Derived.Test.YtjmhoccikbgigaaDoorByteslaw
import Derived.Test.YtjmhoccikbgigaaDoorRdlive
import Derived.Deep.LoopGhost
namespace Go.Proofs.YtjmhoccikbgigaaDoor
open Go.RowKit
/-- what a reader at s has come to, of reading that comes to res; good: what was read is the thing -/
def RdRes {α : Type} (bs : List UInt8) (p : Nat) (res : Res α) (good : α → Prop) (s : St) : Prop :=
  match res with
  | .ok a q => good a ∧ s = ⟨bs.length - q.length, 0, 0⟩ ∧ q.length < bs.length - p ∧ q = bs.drop (bs.length - q.length)
  | .bad e pl => s.err = e ∧ s.place = pl ∧ e ≠ 0 ∧ p ≤ s.pos
theorem tabs_upd {w w' : World} {R : Nat} (hT : Lib.Utf8Tabs 0 1 w) (hu : Upd w w' (some R) (some R)) (hR : 2 ≤ R) : Lib.Utf8Tabs 0 1 w' :=
  ⟨fun c hc => hu.cell (hT.1 c hc) (fun e => by have h : R = 0 := Option.some.inj e; omega), fun i hi => ⟨hu.cell (hT.2 i hi).1 (fun e => by have h : R = 1 := Option.some.inj e; omega), hu.cell (hT.2 i hi).2 (fun e => by have h : R = 1 := Option.some.inj e; omega)⟩⟩
/-- a row of new memory grows beside a reader -/
theorem rd_push {w w1 w3 : World} {R : Nat} {A : Option Addr} {cap : Nat} {bs : List UInt8} {s0 s : St} {v v' : Value} (H0 : RdAt w R A cap bs s0) (HU : Upd w w1 (some R) (some R)) (H1 : RdAt w1 R A cap bs s) (hf : Fresh w.heap.size v) (hu : Upd w1 w3 v.ownBlock v'.ownBlock) :
    RdAt w3 R A cap bs s ∧ Upd w w3 (some R) (some R) ∧ Fresh w.heap.size v' := by
  have hb := hu.below (B := w.heap.size) HU.grown.size (fun g hg => hf g hg)
  have hU := HU.trans_below hb
  have hR := H0.lt
  refine ⟨H0.after hU H1 (hb.block R hR), hU, fun g hg => ?_⟩
  rcases hu.own with e | ⟨g', e, hg'⟩
  · exact hf g (by rw [← e]; exact hg)
  · rw [e] at hg; have := Option.some.inj hg; have := HU.grown.size; omega
theorem byts_grow2 {w w1 w2 : World} {R : Nat} {v : Value} {l : List UInt8} (hR : R < w.heap.size) (hf : Fresh w.heap.size v) (h : Byts w1 v l) (hu : Upd w1 w2 (some R) (some R)) : Byts w2 v l :=
  Row.kept h hu (.inr fun e => by have := hf R e; omega)
theorem byte_ne {c d : UInt8} (h : c ≠ d) : ((c.toNat : Int) == (d.toNat : Int)) = false := by
  rw [beq_eq_false_iff_ne]; intro e; exact h (UInt8.toNat_inj.1 (by omega))
/-- what more answers -/
def MorePost (R : Nat) (A : Option Addr) (cap : Nat) (bs : List UInt8) (p : Nat) (w : World) (r : Ending) (w' : World) : Prop :=
  ∃ (b : Bool) (s' : St), r = .returned (.bool b) ∧ RdAt w' R A cap bs s' ∧ Upd w w' (some R) (some R) ∧
      (if hp : p < bs.length then (if bs[p] = 2 then b = true ∧ s' = ⟨p + 1, 0, 0⟩ else if bs[p] = 1 then b = false ∧ s' = ⟨p + 1, 0, 0⟩ else b = false ∧ s' = ⟨p + 1, 30, p⟩) else b = false ∧ s' = ⟨p, 3, bs.length⟩)
theorem next_in {bs : List UInt8} {p : Nat} (h : p < bs.length) : nextP bs ⟨p, 0, 0⟩ = (bs[p], ⟨p + 1, 0, 0⟩) := dif_pos h
theorem next_out {bs : List UInt8} {p : Nat} (h : ¬ p < bs.length) : nextP bs ⟨p, 0, 0⟩ = (0, ⟨p, 3, bs.length⟩) := dif_neg h
theorem byts_grow {w w' : World} {R : Nat} {v : Value} {l : List UInt8} (h : Byts w v l) (hu : Upd w w' (some R) (some R)) (hne : v.ownBlock ≠ some R) : Byts w' v l := Row.kept h hu (.inr hne)
theorem byts_lie2 {w : World} {A : Option Addr} {n cap : Nat} {l : List UInt8} (h : Byts w (.slice A n cap) l) : l = [] ∨ ∃ G o, A = some ⟨G, o, none⟩ ∧ Lie w G o (bytesV l) := byts_lie h
set_option maxHeartbeats 1000000 in
theorem fails0_c (R : Nat) (A : Option Addr) (cap : Nat) (bs : List UInt8) (s : St) (he : s.err ≠ 0) (e q : Int) (w : World) (h : RdAt w R A cap bs s) :
    Calls Tryd.prog 47 #[.pointer (some ⟨R, 0, none⟩), .int .i64 e, .int .i64 q] w fun r w' => r = .returned (.tuple #[]) ∧ w' = w := by
  have h2 := h.c2
  have heb : ((s.err : Int) == 0) = false := by simp [he]
  clear he h
  go_enter Tryd.func47, Tryd.ntmps47
  go_wp2
  go_end0
  exact ⟨rfl, rfl⟩
set_option maxRecDepth 20000 in
set_option maxHeartbeats 2000000 in
theorem more_c (R : Nat) (A : Option Addr) (cap : Nat) (bs : List UInt8) (p : Nat) (w : World) (h : RdAt w R A cap bs ⟨p, 0, 0⟩) :
    Calls Tryd.prog 84 #[.pointer (some ⟨R, 0, none⟩)] w (MorePost R A cap bs p w) := by
  have hnx := next_c R A cap bs ⟨p, 0, 0⟩ w h
  have hcap := h.c0.2.1
  unfold maxLen at hcap
  clear h
  by_cases hp : p < bs.length
  · rw [next_in hp] at hnx
    have hwp : wrap64 (p : Int) = (p : Int) := by unfold wrap64; omega
    have HM := Lib.hid (fun (r : Ending) (w' : World) (b : Bool) (s' : St) (h1 : r = .returned (.bool b)) (h2 : RdAt w' R A cap bs s') (h3 : Upd w w' (some R) (some R)) (h4 : if bs[p] = 2 then b = true ∧ s' = ⟨p + 1, 0, 0⟩ else if bs[p] = 1 then b = false ∧ s' = ⟨p + 1, 0, 0⟩ else b = false ∧ s' = ⟨p + 1, 30, p⟩) => show MorePost R A cap bs p w r w' from ⟨b, s', h1, h2, h3, by rw [dif_pos hp]; exact h4⟩)
    generalize bs[p] = c at *
    go_enter Tryd.func84, Tryd.ntmps84
    go_wp2_with fail
    refine hnx.mono ?_; rintro e w1 ⟨rfl, hr1, hu1⟩
    have k1 : w1.cell? ⟨R, 1, none⟩ = some (.int .i64 ((p : Int) + 1)) := hr1.c1
    have k2 : w1.cell? ⟨R, 2, none⟩ = some (.int .i64 0) := hr1.c2
    have HR := Lib.hid (And.intro hr1 hu1)
    have HPL := Lib.hid hp
    clear hnx hr1 hu1 hp
    by_cases h2 : c = 2
    · have HM2 := Lib.hid (fun (r : Ending) (w' : World) h1 h2' h3 => HM.out r w' true ⟨p + 1, 0, 0⟩ h1 h2' h3 (by rw [if_pos h2]; exact ⟨rfl, rfl⟩))
      clear HM
      subst h2
      go_wp2
      go_ret
      exact HM2.out _ _ rfl HR.out.1 HR.out.2
    · have hb2 : ((c.toNat : Int) == 2) = false := by rw [beq_eq_false_iff_ne]; intro e; exact h2 (UInt8.toNat_inj.1 (by rw [show (2 : UInt8).toNat = 2 from rfl]; omega))
      by_cases h1 : c = 1
      · have HM2 := Lib.hid (fun (r : Ending) (w' : World) h1' h2' h3 => HM.out r w' false ⟨p + 1, 0, 0⟩ h1' h2' h3 (by rw [if_neg h2, if_pos h1]; exact ⟨rfl, rfl⟩))
        clear HM
        subst h1
        go_wp2
        go_ret
        exact HM2.out _ _ rfl HR.out.1 HR.out.2
      · have hb1 : ((c.toNat : Int) == 1) = false := by
          rw [beq_eq_false_iff_ne]; intro e
          have e2 : c.toNat = 1 := by omega
          exact h1 (UInt8.toNat_inj.1 e2)
        have hfl := fails_c R A cap bs ⟨p + 1, 0, 0⟩ 30 p w1 HR.out.1
        have HM2 := Lib.hid (fun (r : Ending) (w' : World) h1' h2' h3 => HM.out r w' false ⟨p + 1, 30, p⟩ h1' h2' h3 (by rw [if_neg h2, if_neg h1]; exact ⟨rfl, rfl⟩))
        clear h1 h2 HM
        go_wp2_with fail
        refine hfl.mono ?_; rintro e w2 ⟨rfl, hr2, hu2⟩
        have HR2 := Lib.hid (And.intro hr2 (HR.out.2.trans hu2))
        clear hfl hr2 hu2 k1 k2
        go_wp2
        go_ret
        exact HM2.out _ _ rfl HR2.out.1 HR2.out.2
  · rw [next_out hp] at hnx
    have HM := Lib.hid (fun (r : Ending) (w' : World) (h1 : r = .returned (.bool false)) (h2 : RdAt w' R A cap bs ⟨p, 3, bs.length⟩) (h3 : Upd w w' (some R) (some R)) => show MorePost R A cap bs p w r w' from ⟨false, _, h1, h2, h3, by rw [dif_neg hp]; exact ⟨rfl, rfl⟩⟩)
    go_enter Tryd.func84, Tryd.ntmps84
    go_wp2_with fail
    refine hnx.mono ?_; rintro e w1 ⟨rfl, hr1, hu1⟩
    have k1 : w1.cell? ⟨R, 1, none⟩ = some (.int .i64 (p : Int)) := hr1.c1
    have k2 : w1.cell? ⟨R, 2, none⟩ = some (.int .i64 3) := hr1.c2
    have HR := Lib.hid (And.intro hr1 hu1)
    have hfl := fun (q : Int) => fails0_c R A cap bs ⟨p, 3, bs.length⟩ (show (3 : Nat) ≠ 0 by decide) 30 q w1 HR.out.1
    clear hnx hr1 hu1
    go_wp2_with fail
    refine (hfl _).mono ?_; rintro e w2 ⟨rfl, rfl⟩
    clear hfl
    go_wp2
    go_ret
    exact HM.out _ _ rfl HR.out.1 HR.out.2
theorem drop_cons2 {l : List UInt8} {j : Nat} (h : j < l.length) : l.drop j = l[j] :: l.drop (j + 1) := List.drop_eq_getElem_cons h
/-- a place may be gone on from -/
def Mst (bs : List UInt8) (s : St) : Nat := if s.err = 0 then bs.length - s.pos + 1 else 0
set_option maxRecDepth 20000 in
set_option maxHeartbeats 8000000 in
theorem rdText_c (R : Nat) (hR : 2 ≤ R) (A : Option Addr) (cap : Nat) (bs : List UInt8) (hbs : bs.length < 35184372088832) (p : Nat) (w : World) (h : RdAt w R A cap bs ⟨p, 0, 0⟩) (hT : Lib.Utf8Tabs 0 1 w) :
    Calls Tryd.prog 68 #[.pointer (some ⟨R, 0, none⟩)] w fun r w' => ∃ (x : ByteArray) (s' : St), r = .returned (.string x) ∧ x.size ≤ bs.length + 1 ∧ RdAt w' R A cap bs s' ∧ Upd w w' (some R) (some R) ∧
      RdRes bs p (pText bs.length p (bs.drop p) []) (fun l => x = ⟨l.toArray⟩) s' := by
  have H := Lib.hid h
  have HT := Lib.hid hT
  have h1 := h.c1
  have hp := h.pos
  simp only at hp h1
  clear hT h
  go_enter Tryd.func68, Tryd.ntmps68
  go_wp2
  go_loopg [4] (bs.length + 2) (fun gk v wr => ∃ (acc : List UInt8) (s : St), Hid (Byts wr v acc) ∧ Hid (Fresh w.heap.size v) ∧ Hid (RdAt wr R A cap bs s) ∧ Hid (Upd w wr (some R) (some R)) ∧ acc.length + p ≤ s.pos + 1 ∧ p ≤ s.pos ∧ Mst bs s < gk ∧
    ((s.err = 0 ∧ s = ⟨s.pos, 0, 0⟩ ∧ acc.length + p ≤ s.pos ∧ Hid (pText bs.length p (bs.drop p) [] = pText bs.length p (bs.drop s.pos) acc)) ∨ (s.err ≠ 0 ∧ Hid (pText bs.length p (bs.drop p) [] = .bad s.err s.place))))
  case atStart => exact ⟨[], ⟨p, 0, 0⟩, Lib.hid (byts_nil _), Lib.hid (fun g hg => by cases hg), H, Lib.hid (Upd.refl _ _), by simp, Nat.le_refl _, by unfold Mst; simp; omega, .inl ⟨rfl, rfl, by simp, rfl⟩⟩
  case round =>
    clear h1
    obtain ⟨acc, s, HBY, HNE, HRD, HU, hac, hpp, hM, hcase⟩ := hrel
    have HTW := Lib.hid (tabs_upd HT.out HU.out hR)
    rcases hcase with ⟨he, hs, hac2, HQ⟩ | ⟨he, HQ⟩
    · obtain ⟨q, rfl⟩ : ∃ q, s = ⟨q, 0, 0⟩ := ⟨s.pos, hs⟩
      have hq := HRD.out.pos
      simp only at hq hac2 HQ hac hpp
      have k2 : wr.cell? ⟨R, 2, none⟩ = some (.int .i64 0) := HRD.out.c2
      have hnx := next_c R A cap bs ⟨q, 0, 0⟩ wr HRD.out
      unfold Mst at hM
      simp only [if_true] at hM
      clear hs he
      by_cases hlt : q < bs.length
      · rw [next_in hlt] at hnx
        have HD := Lib.hid (drop_cons2 hlt)
        generalize bs[q] = c at *
        go_wp2_with fail
        refine hnx.mono ?_; rintro e w1 ⟨rfl, hr1, hu1⟩
        have m2 : w1.cell? ⟨R, 2, none⟩ = some (.int .i64 0) := hr1.c2
        have HR1 := Lib.hid (And.intro hr1 (HU.out.trans hu1))
        have HBY1 := Lib.hid (byts_grow2 H.out.lt HNE.out HBY.out hu1)
        clear hnx hr1 hu1 k2 HBY HRD
        by_cases hc : c = 0
        · subst hc
          have hnx2 := next_c R A cap bs ⟨q + 1, 0, 0⟩ w1 HR1.out.1
          by_cases hlt2 : q + 1 < bs.length
          · rw [next_in hlt2] at hnx2
            have HD2 := Lib.hid (drop_cons2 hlt2)
            generalize bs[q + 1] = d at *
            have HQ2 := Lib.hid (HQ.out.trans (by rw [HD.out, HD2.out, pText_zero]))
            go_wp2_with fail
            refine hnx2.mono ?_; rintro e w2 ⟨rfl, hr2, hu2⟩
            have HR2 := Lib.hid (And.intro hr2 (HR1.out.2.trans hu2))
            have HBY2 := Lib.hid (byts_grow2 H.out.lt HNE.out HBY1.out hu2)
            have m1 : w2.cell? ⟨R, 1, none⟩ = some (.int .i64 ((q + 1 + 1 : Nat) : Int)) := hr2.c1
            have m2' : w2.cell? ⟨R, 2, none⟩ = some (.int .i64 0) := hr2.c2
            clear hnx2 hr2 hu2 m2 HQ HBY1 HR1
            by_cases h255 : d = 255
            · subst h255
              have HQ3 := Lib.hid (HQ2.out.trans (if_pos rfl))
              have hb1 : Below w2.heap.size w2 (w2.alloc (.cells #[.int .u8 0] 5)) := (Below.refl _ _).alloc (Nat.le_refl _) _
              have hv2 := byts_kept HBY2.out hb1
              have hcell : (w2.alloc (.cells #[.int .u8 0] 5)).cell? ⟨w2.heap.size, 0, none⟩ = some (.int .u8 0) := by simp [go_sem]
              have HB1 := Lib.hid hb1
              clear hb1
              go_wp2_with (at_builtin; refine wpList_byte rfl _ _ rfl _ acc rfl hv2 _ _ 0 rfl hcell rfl (by omega) ?_; intro v3 w3 hv3 hu3; have HR3 := Lib.hid (And.intro hv3 hu3); clear hv3 hu3 hv2 hcell)
              go_roundg (gk - 1)
              case measure => omega
              case rel =>
                obtain ⟨g1, g2, g3⟩ := rd_push H.out (HR2.out.2.trans (Upd.of_below HB1.out _)) (HR2.out.1.below HB1.out) HNE.out HR3.out.2
                exact ⟨acc ++ [0], ⟨q + 1 + 1, 0, 0⟩, Lib.hid HR3.out.1, Lib.hid g3, Lib.hid g1, Lib.hid g2, by simp; omega, by show p ≤ q + 1 + 1; omega, by unfold Mst; simp; omega, .inl ⟨rfl, rfl, by simp; omega, HQ3⟩⟩
            · have HQ3 := Lib.hid (HQ2.out.trans (if_neg h255))
              have hb255 : ((d.toNat : Int) == 255) = false := by
                  rw [beq_eq_false_iff_ne]; intro e
                  have e2 : d.toNat = 255 := by omega
                  exact h255 (UInt8.toNat_inj.1 e2)
              clear HQ2
              by_cases hd1 : d = 1
              · subst hd1
                have HQ4 := Lib.hid (HQ3.out.trans (if_pos rfl))
                obtain ⟨VA, vc, rfl, hvl, hvc, hvs⟩ := bytes_form HBY2.out
                have HTW2 := tabs_upd HT.out HR2.out.2 hR
                have hval := valid_c acc VA vc ⟨hvl, hvc⟩ w2 (byts_lie2 HBY2.out) HTW2
                clear HQ3 h255 hb255 hvs HTW2
                go_wp2_with fail
                refine hval.mono ?_; rintro e w3 ⟨rfl, hb3⟩
                have hR3 := HR2.out.1.below hb3
                have HU3 := Lib.hid (HR2.out.2.trans (Upd.of_below hb3 _))
                have hst := byts_string (byts_kept HBY2.out hb3)
                have m4 : w3.cell? ⟨R, 1, none⟩ = some (.int .i64 ((q + 1 + 1 : Nat) : Int)) := hR3.c1
                have HBY3 := Lib.hid (byts_kept HBY2.out hb3)
                clear hval hb3 m1 m2'
                by_cases hvv : Lib.validD acc = true
                · have HQ5 := Lib.hid (HQ4.out.trans (if_pos hvv))
                  have HR3 := Lib.hid hR3
                  have HDR := Lib.hid (show bs.drop (q + 1 + 1) = bs.drop (bs.length - (bs.drop (q + 1 + 1)).length) by rw [List.length_drop]; congr 1; omega)
                  rw [hvv]
                  clear hR3 HQ4 hvv
                  go_wp2
                  go_ret
                  refine ⟨⟨acc.toArray⟩, ⟨q + 1 + 1, 0, 0⟩, rfl, by simp [ByteArray.size]; omega, HR3.out, HU3.out, ?_⟩
                  rw [HQ5.out]
                  refine ⟨rfl, ?_, by rw [List.length_drop]; omega, HDR.out⟩
                  rw [List.length_drop]; congr 1; omega
                · have HQ5 := Lib.hid (HQ4.out.trans (if_neg hvv))
                  have hvf : Lib.validD acc = false := by simpa using hvv
                  rw [hvf]
                  have hfl := fails_c R A cap bs ⟨q + 1 + 1, 0, 0⟩ 13 p w3 hR3
                  clear hR3 HQ4 hvv hst
                  go_wp2_with fail
                  refine hfl.mono ?_; rintro e w4 ⟨rfl, hr4, hu4⟩
                  have HR4 := Lib.hid (And.intro hr4 (HU3.out.trans hu4))
                  have hst := byts_string (byts_grow2 H.out.lt HNE.out HBY3.out hu4)
                  clear hfl hr4 hu4 m4
                  go_wp2
                  go_ret
                  refine ⟨⟨acc.toArray⟩, ⟨q + 1 + 1, 13, p⟩, rfl, by simp [ByteArray.size]; omega, HR4.out.1, HR4.out.2, ?_⟩
                  rw [HQ5.out]
                  exact ⟨rfl, rfl, by decide, by show p ≤ q + 1 + 1; omega⟩
              · have HQ4 := Lib.hid (HQ3.out.trans (if_neg hd1))
                have hbd1 : ((d.toNat : Int) == 1) = false := by
                  rw [beq_eq_false_iff_ne]; intro e
                  have e2 : d.toNat = 1 := by omega
                  exact hd1 (UInt8.toNat_inj.1 e2)
                have hfl := fails_c R A cap bs ⟨q + 1 + 1, 0, 0⟩ 30 (q + 1) w2 HR2.out.1
                have hqq : ((q + 1 + 1 : Nat) : Int) - 1 = ((q + 1 : Nat) : Int) := by omega
                have hwq : wrap64 (((q + 1 : Nat) : Int)) = ((q + 1 : Nat) : Int) := by unfold wrap64; omega
                have HPL := Lib.hid (show bs.length - (bs.drop (q + 1 + 1)).length - 1 = q + 1 by rw [List.length_drop]; omega)
                clear HQ3 h255 hd1
                go_wp2_with fail
                refine hfl.mono ?_; rintro e w3 ⟨rfl, hr3, hu3⟩
                have HR3 := Lib.hid (And.intro hr3 (HR2.out.2.trans hu3))
                have HBY3 := Lib.hid (byts_grow2 H.out.lt HNE.out HBY2.out hu3)
                clear hfl hr3 hu3 m1 m2'
                go_wp2
                go_roundg (gk - 1)
                case measure => omega
                case rel => exact ⟨acc, ⟨q + 1 + 1, 30, q + 1⟩, HBY3, HNE, Lib.hid HR3.out.1, Lib.hid HR3.out.2, by show acc.length + p ≤ q + 1 + 1 + 1; omega, by show p ≤ q + 1 + 1; omega, by unfold Mst; simp; omega, .inr ⟨by simp, Lib.hid (by rw [HQ4.out, HPL.out])⟩⟩
          · rw [next_out hlt2] at hnx2
            have HE2 := Lib.hid (show bs.drop (q + 1) = [] from List.drop_of_length_le (by omega))
            have HQ2 := Lib.hid (HQ.out.trans (show _ = Res.bad 3 bs.length by rw [HD.out, HE2.out]; rfl))
            go_wp2_with fail
            refine hnx2.mono ?_; rintro e w2 ⟨rfl, hr2, hu2⟩
            have HR2 := Lib.hid (And.intro hr2 (HR1.out.2.trans hu2))
            have HBY2 := Lib.hid (byts_grow2 H.out.lt HNE.out HBY1.out hu2)
            have m1 : w2.cell? ⟨R, 1, none⟩ = some (.int .i64 ((q + 1 : Nat) : Int)) := hr2.c1
            have hfl := fun (z : Int) => fails0_c R A cap bs ⟨q + 1, 3, bs.length⟩ (show (3 : Nat) ≠ 0 by decide) 30 z w2 hr2
            clear hnx2 hr2 hu2 m2 HQ HBY1 HR1
            go_wp2_with fail
            refine (hfl _).mono ?_; rintro e w3 ⟨rfl, rfl⟩
            clear hfl m1
            go_wp2
            go_roundg (gk - 1)
            case measure => omega
            case rel => exact ⟨acc, ⟨q + 1, 3, bs.length⟩, HBY2, HNE, Lib.hid HR2.out.1, Lib.hid HR2.out.2, by show acc.length + p ≤ q + 1 + 1; omega, by show p ≤ q + 1; omega, by unfold Mst; simp; omega, .inr ⟨by simp, HQ2⟩⟩
        · have HQ2 := Lib.hid (HQ.out.trans (by rw [HD.out, pText_ne _ _ hc]))
          have hcb : ((c.toNat : Int) == 0) = false := by
            rw [beq_eq_false_iff_ne]; intro e
            have e2 : c.toNat = 0 := by omega
            exact hc (UInt8.toNat_inj.1 e2)
          have hcn : ((c.toNat : Int) != 0) = true := by simp only [bne, hcb]; rfl
          have hb1 : Below w1.heap.size w1 (w1.alloc (.cells #[.int .u8 (c.toNat : Int)] 5)) := (Below.refl _ _).alloc (Nat.le_refl _) _
          have hv2 := byts_kept HBY1.out hb1
          have hcell : (w1.alloc (.cells #[.int .u8 (c.toNat : Int)] 5)).cell? ⟨w1.heap.size, 0, none⟩ = some (.int .u8 (c.toNat : Int)) := by simp [go_sem]
          have HB1 := Lib.hid hb1
          clear hb1 HQ hc m2
          go_wp2_with (at_builtin; refine wpList_byte rfl _ _ rfl _ acc rfl hv2 _ _ c rfl hcell rfl (by omega) ?_; intro v3 w3 hv3 hu3; have HR3 := Lib.hid (And.intro hv3 hu3); clear hv3 hu3 hv2 hcell)
          go_roundg (gk - 1)
          case measure => omega
          case rel =>
            obtain ⟨g1, g2, g3⟩ := rd_push H.out (HR1.out.2.trans (Upd.of_below HB1.out _)) (HR1.out.1.below HB1.out) HNE.out HR3.out.2
            exact ⟨acc ++ [c], ⟨q + 1, 0, 0⟩, Lib.hid HR3.out.1, Lib.hid g3, Lib.hid g1, Lib.hid g2, by simp; omega, by show p ≤ q + 1; omega, by unfold Mst; simp; omega, .inl ⟨rfl, rfl, by simp; omega, HQ2⟩⟩
      · rw [next_out hlt] at hnx
        have HE2 := Lib.hid (show bs.drop q = [] from List.drop_of_length_le (by omega))
        have HQ2 := Lib.hid (HQ.out.trans (show _ = Res.bad 3 bs.length by rw [HE2.out]; rfl))
        go_wp2_with fail
        refine hnx.mono ?_; rintro e w1 ⟨rfl, hr1, hu1⟩
        have m2 : w1.cell? ⟨R, 2, none⟩ = some (.int .i64 3) := hr1.c2
        have HR1 := Lib.hid (And.intro hr1 (HU.out.trans hu1))
        have HBY1 := Lib.hid (byts_grow2 H.out.lt HNE.out HBY.out hu1)
        have hb1 : Below w1.heap.size w1 (w1.alloc (.cells #[.int .u8 0] 5)) := (Below.refl _ _).alloc (Nat.le_refl _) _
        have hv2 := byts_kept HBY1.out hb1
        have hcell : (w1.alloc (.cells #[.int .u8 0] 5)).cell? ⟨w1.heap.size, 0, none⟩ = some (.int .u8 0) := by simp [go_sem]
        have m3 := cell_below hb1 m2
        have HB1 := Lib.hid hb1
        clear hnx hr1 hu1 k2 HBY HRD hb1
        go_wp2_with (at_builtin; refine wpList_byte rfl _ _ rfl _ acc rfl hv2 _ _ 0 rfl hcell rfl (by omega) ?_; intro v3 w3 hv3 hu3; have HR3 := Lib.hid (And.intro hv3 hu3); clear hv3 hu3 hv2 hcell)
        go_roundg (gk - 1)
        case measure => omega
        case rel =>
          obtain ⟨g1, g2, g3⟩ := rd_push H.out (HR1.out.2.trans (Upd.of_below HB1.out _)) (HR1.out.1.below HB1.out) HNE.out HR3.out.2
          exact ⟨acc ++ [0], ⟨q, 3, bs.length⟩, Lib.hid HR3.out.1, Lib.hid g3, Lib.hid g1, Lib.hid g2, by simp; omega, by show p ≤ q; omega, by unfold Mst; simp; omega, .inr ⟨by simp, HQ2⟩⟩
    · have k2 : wr.cell? ⟨R, 2, none⟩ = some (.int .i64 (s.err : Int)) := HRD.out.c2
      have heb : ((s.err : Int) == 0) = false := by simp [he]
      have HE := Lib.hid he
      have HPP := Lib.hid hac
      clear he hac hM
      go_wp2
      go_ret
      refine ⟨⟨#[]⟩, s, rfl, Nat.zero_le _, HRD.out, HU.out, ?_⟩
      rw [HQ.out]
      exact ⟨rfl, rfl, HE.out, hpp⟩
end Go.Proofs.YtjmhoccikbgigaaDoor
