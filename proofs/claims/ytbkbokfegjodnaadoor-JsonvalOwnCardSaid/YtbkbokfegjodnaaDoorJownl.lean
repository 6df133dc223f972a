/- The walk of the law JsonvalOwn. Conditions: what lies in the package-level variables. -/
import Derived.Test.YtbkbokfegjodnaaDoorDparse
import Derived.Test.YtbkbokfegjodnaaDoorOwnr
import Derived.Test.YtbkbokfegjodnaaDoorSpoil
import Derived.Test.YtbkbokfegjodnaaDoorApart
import Derived.Test.YtbkbokfegjodnaaDoorJbulk
namespace Go.Proofs.YtbkbokfegjodnaaDoor
open Go.RowKit
theorem parsed_bulk {s : ByteArray} {t : JV} {e pl : Nat} (h : match jparse s.data.toList with | .ok v _ => t = v ∧ e = 0 ∧ pl = 0 | .bad e' p' => t = jnil 0 ∧ e = e' ∧ pl = p') : t.bulk ≤ 1099511627776 := by
  cases hj : jparse s.data.toList with
  | ok v r => rw [hj] at h; have := jparse_bulk hj; rw [h.1]; omega
  | bad a b => rw [hj] at h; rw [h.1]; decide
theorem parsed_same {s : ByteArray} {t t' : JV} {e e' pl pl' : Nat} (h : match jparse s.data.toList with | .ok v _ => t = v ∧ e = 0 ∧ pl = 0 | .bad e' p' => t = jnil 0 ∧ e = e' ∧ pl = p') (h' : match jparse s.data.toList with | .ok v _ => t' = v ∧ e' = 0 ∧ pl' = 0 | .bad e'' p'' => t' = jnil 0 ∧ e' = e'' ∧ pl' = p'') : t' = t ∧ e' = e ∧ pl' = pl := by
  cases hj : jparse s.data.toList with
  | ok v l => rw [hj] at h h'; exact ⟨h'.1.trans h.1.symm, h'.2.1.trans h.2.1.symm, h'.2.2.trans h.2.2.symm⟩
  | bad a b => rw [hj] at h h'; exact ⟨h'.1.trans h.1.symm, h'.2.1.trans h.2.1.symm, h'.2.2.trans h.2.2.symm⟩
set_option maxRecDepth 20000 in
set_option maxHeartbeats 8000000 in
theorem jsonvalOwn_c (s : ByteArray) (w : World) (hT : JTabs w) : Calls Tryd.prog 8 #[.string s] w fun r w' => r = .returned (.bool true) ∧ Below w.heap.size w w' := by
  have HT := Lib.hid (fun (W : World) (hW : Below w.heap.size w W) => hT.below hW)
  have hd := dparse_c s w
  clear hT
  go_enter Tryd.func8, Tryd.ntmps8
  go_wp2_with fail
  refine hd.mono ?_; rintro r w1 ⟨t, an, cn, ai, ci, e, pl, rfl, hr, hb, hm⟩
  clear hd
  have HM := Lib.hid hm
  have HBK := Lib.hid (parsed_bulk hm)
  have bx : Below w1.heap.size w1 (w1.alloc (.cells #[.int .i64 t.kind, .int .i64 t.int, .string t.text, .slice an t.names.length cn, .slice ai t.items.length ci] 28)) := (Below.refl _ _).alloc (Nat.le_refl _) _
  have HB1 := Lib.hid (hb.trans (bx.mono hb.size))
  have XA1 := Lib.hid (heap_alloc_new w1 (.cells #[.int .i64 t.kind, .int .i64 t.int, .string t.text, .slice an t.names.length cn, .slice ai t.items.length ci] 28))
  have RA1 := Lib.hid (Rep.kept (ok' := fun b => b < w1.heap.size) (fun b hlt _ => ⟨hlt, bx.block b hlt⟩) _ _ hr)
  have hs1 : (w1.alloc (.cells #[.int .i64 t.kind, .int .i64 t.int, .string t.text, .slice an t.names.length cn, .slice ai t.items.length ci] 28)).heap.size = w1.heap.size + 1 := by simp
  clear hb hr hm bx
  go_wp2_with fail
  generalize (w1.alloc (.cells #[.int .i64 t.kind, .int .i64 t.int, .string t.text, .slice an t.names.length cn, .slice ai t.items.length ci] 28)) = z1 at *
  have hp := parse_cO s z1 (HT.out z1 HB1.out).size (HT.out z1 HB1.out).utf (HT.out z1 HB1.out).err
  refine hp.mono ?_; rintro r y1 ⟨t2, an2, cn2, ai2, ci2, e2, pl2, rfl, ⟨F1, hf1, hn1, hl1⟩, hb, hm⟩
  obtain ⟨rfl, rfl, rfl⟩ := parsed_same HM.out hm
  clear hp hm
  have bx : Below y1.heap.size y1 (y1.alloc (.cells #[.int .i64 t2.kind, .int .i64 t2.int, .string t2.text, .slice an2 t2.names.length cn2, .slice ai2 t2.items.length ci2] 28)) := (Below.refl _ _).alloc (Nat.le_refl _) _
  have hb2 := below_trans hb bx
  have HB2 := Lib.hid (HB1.out.trans (hb2.mono HB1.out.size))
  have XA2 := Lib.hid (block_below hb2 XA1.out)
  have RA2 := Lib.hid (RA1.out.below hb2)
  have XV2 := Lib.hid (heap_alloc_new y1 (.cells #[.int .i64 t2.kind, .int .i64 t2.int, .string t2.text, .slice an2 t2.names.length cn2, .slice ai2 t2.items.length ci2] 28))
  have RV2 := Lib.hid (hf1.below bx)
  have HF1 := Lib.hid (And.intro hn1 (And.intro hl1 (RepF.lt _ _ _ hf1)))
  have hs2 : (y1.alloc (.cells #[.int .i64 t2.kind, .int .i64 t2.int, .string t2.text, .slice an2 t2.names.length cn2, .slice ai2 t2.items.length ci2] 28)).heap.size = y1.heap.size + 1 := by simp
  have hy1 := hb.size
  clear hb hb2 bx hf1 hn1 hl1 XA1 RA1
  go_wp2_with fail
  generalize (y1.alloc (.cells #[.int .i64 t2.kind, .int .i64 t2.int, .string t2.text, .slice an2 t2.names.length cn2, .slice ai2 t2.items.length ci2] 28)) = z2 at *
  have hp := parse_cO s z2 (HT.out z2 HB2.out).size (HT.out z2 HB2.out).utf (HT.out z2 HB2.out).err
  refine hp.mono ?_; rintro r y2 ⟨t3, an3, cn3, ai3, ci3, e3, pl3, rfl, ⟨F2, hf2, hn2, hl2⟩, hb, hm⟩
  obtain ⟨rfl, rfl, rfl⟩ := parsed_same HM.out hm
  clear hp hm HM
  have bx : Below y2.heap.size y2 (y2.alloc (.cells #[.int .i64 t3.kind, .int .i64 t3.int, .string t3.text, .slice an3 t3.names.length cn3, .slice ai3 t3.items.length ci3] 28)) := (Below.refl _ _).alloc (Nat.le_refl _) _
  have hb2 := below_trans hb bx
  have HB3 := Lib.hid (HB2.out.trans (hb2.mono HB2.out.size))
  have XA3 := Lib.hid (block_below hb2 XA2.out)
  have RA3 := Lib.hid (RA2.out.below hb2)
  have XV3 := Lib.hid (block_below hb2 XV2.out)
  have RV3 := Lib.hid (RV2.out.below hb2)
  have XW3 := Lib.hid (heap_alloc_new y2 (.cells #[.int .i64 t3.kind, .int .i64 t3.int, .string t3.text, .slice an3 t3.names.length cn3, .slice ai3 t3.items.length ci3] 28))
  have RW3 := Lib.hid (hf2.below bx)
  have HF2 := Lib.hid (And.intro hn2 (And.intro hl2 (RepF.lt _ _ _ hf2)))
  have hs3 : (y2.alloc (.cells #[.int .i64 t3.kind, .int .i64 t3.int, .string t3.text, .slice an3 t3.names.length cn3, .slice ai3 t3.items.length ci3] 28)).heap.size = y2.heap.size + 1 := by simp
  have hy2 := hb.size
  have hee : ((e3 : Int) != (e3 : Int)) = false := by simp
  clear hb hb2 bx hf2 hn2 hl2 XA2 RA2 XV2 RV2
  go_wp2_with fail
  generalize (y2.alloc (.cells #[.int .i64 t3.kind, .int .i64 t3.int, .string t3.text, .slice an3 t3.names.length cn3, .slice ai3 t3.items.length ci3] 28)) = z3 at *
  refine (lnum_c (e3 : Int) z3).mono ?_; rintro r z4 ⟨rfl, rfl⟩
  go_wp2_with fail
  refine (live_c z4 (HT.out z4 HB3.out)).mono ?_; rintro r z5 ⟨rfl, hb⟩
  have HB5 := Lib.hid (HB3.out.trans (hb.mono HB3.out.size))
  have XA5 := Lib.hid (block_below hb XA3.out)
  have RA5 := Lib.hid (RA3.out.below hb)
  have XV5 := Lib.hid (block_below hb XV3.out)
  have RV5 := Lib.hid (RV3.out.below hb)
  have XW5 := Lib.hid (block_below hb XW3.out)
  have RW5 := Lib.hid (RW3.out.below hb)
  have hs5 := hb.size
  clear hb XA3 RA3 XV3 RV3 XW3 RW3 hee
  obtain ⟨⟨c0, c1, c2, c3, c4⟩, zf⟩ := cellsOf5 XV5.out
  have hc := spoil_c t3 _ F1 z5 RV5.out HF1.out.1 HBK.out
  clear zf
  go_wp2_with fail
  clear c0 c1 c2 c3 c4
  refine hc.mono ?_; rintro r z6 ⟨rfl, ht⟩
  clear hc
  have HB6 := Lib.hid (HB5.out.trans (ht.below (B := w.heap.size) (fun g hg => by have := HF1.out.2.1 g hg; have := HB1.out.size; omega) HB5.out.size))
  have XA6 := Lib.hid ((ht.block w1.heap.size (Array.getElem?_eq_some_iff.1 XA5.out).1 (fun hm => by have := HF1.out.2.1 _ hm; omega)).trans XA5.out)
  have XW6 := Lib.hid ((ht.block y2.heap.size (Array.getElem?_eq_some_iff.1 XW5.out).1 (fun hm => by have := HF1.out.2.2 _ hm; omega)).trans XW5.out)
  have RW6 := Lib.hid (RW5.out.turn ht (fun b hb hm => by have := HF2.out.2.1 b hb; have := HF1.out.2.2 b hm; omega))
  have RA6 := Lib.hid (Rep.kept (ok' := fun b => b < w1.heap.size) (fun b hlt hb => ⟨hb, ht.block b hlt (fun hm => by have := HF1.out.2.1 b hm; omega)⟩) _ _ RA5.out)
  clear ht XA5 XV5 RV5 XW5 RW5 RA5
  obtain ⟨⟨a0, a1, a2, a3, a4⟩, _⟩ := cellsOf5 XA6.out
  obtain ⟨⟨c0, c1, c2, c3, c4⟩, zf⟩ := cellsOf5 XW6.out
  have hc := equal_c t3 t3 _ _ z6 (fun _ => True) _ (RepF.rep _ _ _ RW6.out (fun _ _ => trivial)) RA6.out
  rw [same_self] at hc
  clear zf
  go_wp2_with fail
  clear a0 a1 a2 a3 a4 c0 c1 c2 c3 c4
  refine hc.mono ?_; rintro r z7 ⟨rfl, hb⟩
  clear hc
  have HB7 := Lib.hid (HB6.out.trans (hb.mono HB6.out.size))
  have XW7 := Lib.hid (block_below hb XW6.out)
  have RW7 := Lib.hid (RW6.out.below hb)
  clear hb XA6 XW6 RW6 RA6
  obtain ⟨⟨c0, c1, c2, c3, c4⟩, zf⟩ := cellsOf5 XW7.out
  have hc := apart_c t3 _ F2 z7 RW7.out HF2.out.1 HBK.out
  clear zf
  go_wp2_with fail
  clear c0 c1 c2 c3 c4
  refine hc.mono ?_; rintro r z8 ⟨rfl, ht⟩
  clear hc
  have HB8 := Lib.hid (HB7.out.trans (ht.below (B := w.heap.size) (fun g hg => by have := HF2.out.2.1 g hg; have := HB2.out.size; omega) HB7.out.size))
  clear ht
  go_wp2
  go_ret
  exact ⟨rfl, HB8.out⟩
end Go.Proofs.YtbkbokfegjodnaaDoor
