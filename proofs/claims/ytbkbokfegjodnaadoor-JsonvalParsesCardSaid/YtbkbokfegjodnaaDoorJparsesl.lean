/- The walk of the law JsonvalParses. Conditions: what lies in the package-level variables. -/
import Derived.Test.YtbkbokfegjodnaaDoorDparse
import Derived.Test.YtbkbokfegjodnaaDoorLivej
namespace Go.Proofs.YtbkbokfegjodnaaDoor
open Go.RowKit
set_option maxRecDepth 20000 in
set_option maxHeartbeats 8000000 in
theorem jsonvalParses_c (s : ByteArray) (w : World) (hT : JTabs w) : Calls Tryd.prog 4 #[.string s] w fun r w' => r = .returned (.bool true) ∧ Below w.heap.size w w' := by
  have hp := parse_c s w hT.size hT.utf hT.err
  have HT := Lib.hid (fun (W : World) (hW : Below w.heap.size w W) => hT.below hW)
  clear hT
  go_enter Tryd.func4, Tryd.ntmps4
  go_wp2_with fail
  refine hp.mono ?_; rintro r w1 ⟨t, an, cn, ai, ci, e, pl, rfl, hr, hb, hm⟩
  clear hp
  have bv : Below w1.heap.size w1 (w1.alloc (.cells #[.int .i64 t.kind, .int .i64 t.int, .string t.text, .slice an t.names.length cn, .slice ai t.items.length ci] 28)) := (Below.refl _ _).alloc (Nat.le_refl _) _
  have XV := Lib.hid (heap_alloc_new w1 (.cells #[.int .i64 t.kind, .int .i64 t.int, .string t.text, .slice an t.names.length cn, .slice ai t.items.length ci] 28))
  have HB := Lib.hid (hb.trans (bv.mono hb.size))
  have HR := Lib.hid (hr.below bv)
  have hs1 : (w1.alloc (.cells #[.int .i64 t.kind, .int .i64 t.int, .string t.text, .slice an t.names.length cn, .slice ai t.items.length ci] 28)).heap.size = w1.heap.size + 1 := by simp
  have HM := Lib.hid hm
  clear bv hb hr hm
  go_wp2_with fail
  generalize (w1.alloc (.cells #[.int .i64 t.kind, .int .i64 t.int, .string t.text, .slice an t.names.length cn, .slice ai t.items.length ci] 28)) = w2 at *
  refine (dparse_c s w2).mono ?_; rintro r w3 ⟨t', an', cn', ai', ci', e', pl', rfl, hr, hb, hm⟩
  have hall : t' = t ∧ e' = e ∧ pl' = pl := by
    have h1 := HM.out
    cases hj : jparse s.data.toList with
    | ok v l => rw [hj] at h1 hm; exact ⟨hm.1.trans h1.1.symm, hm.2.1.trans h1.2.1.symm, hm.2.2.trans h1.2.2.symm⟩
    | bad a b => rw [hj] at h1 hm; exact ⟨hm.1.trans h1.1.symm, hm.2.1.trans h1.2.1.symm, hm.2.2.trans h1.2.2.symm⟩
  obtain ⟨rfl, rfl, rfl⟩ := hall
  clear hm HM
  have bv : Below w3.heap.size w3 (w3.alloc (.cells #[.int .i64 t'.kind, .int .i64 t'.int, .string t'.text, .slice an' t'.names.length cn', .slice ai' t'.items.length ci'] 28)) := (Below.refl _ _).alloc (Nat.le_refl _) _
  have XW := heap_alloc_new w3 (.cells #[.int .i64 t'.kind, .int .i64 t'.int, .string t'.text, .slice an' t'.names.length cn', .slice ai' t'.items.length ci'] 28)
  have hb4 := below_trans hb bv
  have XV2 := blk_below hb4 XV.out
  obtain ⟨⟨a0, a1, a2, a3, a4⟩, _⟩ := cellsOf5 XV2
  obtain ⟨⟨b0, b1, b2, b3, b4⟩, _⟩ := cellsOf5 XW
  have HB2 := Lib.hid (HB.out.trans (hb4.mono HB.out.size))
  have hq := equal_c t' t' _ _ _ _ _ (HR.out.below hb4) (hr.below bv)
  rw [same_self] at hq
  have HQ := Lib.hid hq
  have hee : ((e' : Int) == (e' : Int)) = true := by simp
  have hpp : ((pl' : Int) == (pl' : Int)) = true := by simp
  clear hb hr bv XW XV2 hb4 hq HR HB XV
  go_wp2_with fail
  generalize (w3.alloc (.cells #[.int .i64 t'.kind, .int .i64 t'.int, .string t'.text, .slice an' t'.names.length cn', .slice ai' t'.items.length ci'] 28)) = w4 at *
  refine (lnum_c (e' : Int) w4).mono ?_; rintro r w5 ⟨rfl, rfl⟩
  go_wp2_with fail
  clear a0 a1 a2 a3 a4 b0 b1 b2 b3 b4
  refine HQ.out.mono ?_; rintro r w6 ⟨rfl, hb6⟩
  have HB6 := Lib.hid (HB2.out.trans (hb6.mono HB2.out.size))
  clear hb6 HQ
  go_wp2_with fail
  refine (live_c w6 (HT.out w6 HB6.out)).mono ?_; rintro r w7 ⟨rfl, hb7⟩
  have HB7 := Lib.hid (HB6.out.trans (hb7.mono HB6.out.size))
  clear hb7
  go_wp2
  go_ret
  exact ⟨rfl, HB7.out⟩
end Go.Proofs.YtbkbokfegjodnaaDoor
