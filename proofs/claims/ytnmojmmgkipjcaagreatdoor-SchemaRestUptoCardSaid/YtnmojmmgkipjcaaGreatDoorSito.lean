/- strconv.Itoa at a number from 100 to 3000, whatever its table holds: a text. Conditions: the table's cells are numbers of their kind. -/
import Derived.Test.YtnmojmmgkipjcaaGreatDoorRuleb
import Derived.Shelf.LaysM
import Derived.Shelf.RegionOpenPlain
import Derived.Lib.Walk
import Derived.Lib.ItoaWalk
import Derived.Lib.ItoaMem
import Derived.WalkKit
import Derived.RegionTactic
import Derived.BigCall
import Derived.BigGuard
import Derived.CellFam
namespace Go.Proofs.YtnmojmmgkipjcaaGreatDoor
open Go.RowKit Go.Lib
/-- the table's cells are numbers -/
def TabU (w : World) : Prop := ∀ i, i < 20 → ∃ x : Nat, x < 18446744073709551616 ∧ w.cell? ⟨2, i, none⟩ = some (.int .u64 (x : Int))
theorem l10_low : ∀ v : Fin 94, 3 ≤ v.val → (Lib.l10 (5 + Lib.bitLen v.val) = 2 ∧ v.val < 16) ∨ Lib.l10 (5 + Lib.bitLen v.val) = 3 := by decide +kernel
theorem l10_mid (u : Nat) (h1 : 100 ≤ u) (h2 : u < 3001) : (Lib.l10 (Lib.bitLen u) = 2 ∧ u < 1000) ∨ Lib.l10 (Lib.bitLen u) = 3 := by
  rw [Lib.bitLen_shift 5 u (by omega) (by omega)]
  rcases l10_low ⟨u / 2 ^ 5, by omega⟩ (by simp only; omega) with ⟨h3, h4⟩ | h3
  · exact .inl ⟨h3, by simp only at h4; omega⟩
  · exact .inr h3
theorem log10_c (x : Nat) (h : x ≤ 64) (w : World) : Calls Tryz.prog 116 #[.int .i64 x] w fun e w' => e = .returned (.int .i64 (Lib.l10 x)) ∧ w = w' := by
  go_enter Tryz.func116, Tryz.ntmps116
  go_wp2
  go_ret
  refine ⟨?_, rfl⟩
  (congr 2) <;> (unfold Lib.l10; omega)
theorem bool2_c (b : Bool) (w : World) : Calls Tryz.prog 118 #[.bool b] w fun e w' => e = .returned (.int .i64 (if b then 1 else 0)) ∧ w = w' := by
  cases b <;>
  · go_enter Tryz.func118, Tryz.ntmps118
    go_wp2
    go_ret
    exact ⟨rfl, rfl⟩
/-- how many digits numDigits tells -/
def ndB (q : Nat) (b : Bool) : Nat := if b = true then q + 1 else q
set_option maxHeartbeats 4000000 in
theorem numD_c (u : Nat) (h1 : 100 ≤ u) (h2 : u < 3001) (w : World) (ht : TabU w) : Calls Tryz.prog 113 #[.int .u64 u] w fun e w' => (∃ nd : Nat, e = .returned (.int .i64 nd) ∧ Hid (2 ≤ nd ∧ nd ≤ 4)) ∧ w = w' := by
  have hl := l10_mid u h1 h2
  have hL : Lib.bitLen u ≤ 64 := Lib.bitLen_le u 64 (Nat.le_refl _) (by omega)
  obtain ⟨T, hT, hcell⟩ := ht (Lib.l10 (Lib.bitLen u)) (by omega)
  have hto : ((u : Int)).toNat = u := by omega
  have HLG := Lib.hid (log10_c (Lib.bitLen u) hL)
  have HLN := Lib.hid (Tryz.bits_Len64 (u : Int) w (by omega) (by omega))
  rw [hto] at HLN
  have hq : 2 ≤ Lib.l10 (Lib.bitLen u) ∧ Lib.l10 (Lib.bitLen u) ≤ 3 := by omega
  generalize Lib.bitLen u = bl at *
  generalize Lib.l10 bl = q at *
  obtain ⟨hq0, hq1⟩ := hq
  clear hl ht
  by_cases hge : T ≤ u
  · have hd : (T : Int) ≤ (u : Int) := by omega
    go_enter Tryz.func113, Tryz.ntmps113
    go_wp2_with (first
      | (go_at_call 117; refine HLN.out.mono ?_; rintro e w' ⟨rfl, hw⟩; subst hw)
      | (go_at_call 116; refine (HLG.out _).mono ?_; rintro e w' ⟨rfl, rfl⟩)
      | (go_at_call 118; refine (bool2_c true _).mono ?_; rintro e w' ⟨rfl, rfl⟩))
    go_ret
    exact ⟨⟨q + 1, by rfl, Lib.hid (by omega)⟩, rfl⟩
  · have hd : ¬ (T : Int) ≤ (u : Int) := by omega
    go_enter Tryz.func113, Tryz.ntmps113
    go_wp2_with (first
      | (go_at_call 117; refine HLN.out.mono ?_; rintro e w' ⟨rfl, hw⟩; subst hw)
      | (go_at_call 116; refine (HLG.out _).mono ?_; rintro e w' ⟨rfl, rfl⟩)
      | (go_at_call 118; refine (bool2_c false _).mono ?_; rintro e w' ⟨rfl, rfl⟩))
    go_ret
    exact ⟨⟨q, by simp, Lib.hid (by omega)⟩, rfl⟩
/-- the array's bytes -/
def U8At (w : World) (A : Nat) : Prop := (∀ t, t < 24 → ∃ b : UInt8, w.cell? ⟨A, t, none⟩ = some (.int .u8 (b.toNat : Int))) ∧ ∀ t, t < 24 → w.frozen? ⟨A, t, none⟩ = false
theorem U8At.set {w : World} {A : Nat} (h : U8At w A) (t : Nat) (ht : t < 24) (b : UInt8) : U8At (w.setCell ⟨A, t, none⟩ (.int .u8 (b.toNat : Int))) A := by
  refine ⟨fun k hk => ?_, fun k hk => by rw [setF]; exact h.2 k hk⟩
  by_cases e : k = t
  · subst e
    obtain ⟨c, hc⟩ := h.1 k hk
    exact ⟨b, setS hc⟩
  · obtain ⟨c, hc⟩ := h.1 k hk
    exact ⟨c, by rw [setO (by intro e2; injection e2 with _ e2; exact e e2.symm)]; exact hc⟩
theorem U8At.drew {w : World} {A : Nat} (h : U8At w A) : U8At w.drew A := h
def FbPost (w : World) (A : Nat) (e : Ending) (w' : World) : Prop := e = .returned (.tuple #[]) ∧ U8At w' A ∧ Upd w w' (some A) (some A)
set_option maxHeartbeats 12800000 in
set_option maxRecDepth 100000 in
theorem fb2_c (u : Nat) (h1 : 100 ≤ u) (h2 : u < 3001) (A cap : Nat) (w : World) (h : U8At w A) : Calls Tryz.prog 114 #[.slice (some ⟨A, 1, none⟩) 2 cap, .int .u64 u] w (FbPost w A) := by
  have H := Lib.hid h
  have t9 := Tryz.underlying9
  have mixed : Tryz.prog.follows .mixedOrders = true := by kernel_rfl
  obtain ⟨b1, c1⟩ := h.1 1 (by omega)
  obtain ⟨b2, c2⟩ := h.1 2 (by omega)
  have f1 := h.2 1 (by omega)
  have f2 := h.2 2 (by omega)
  clear h
  go_enter Tryz.func114, Tryz.ntmps114
  go_name_bytes SM hSM
  have eSM : SM = Lib.smalls := by rw [← hSM]; decide +kernel
  subst eSM
  clear hSM
  go_wp2
  go_loopw [1, 4] (fun vu vn wr => vu = .int .u64 u ∧ vn = .int .i64 2 ∧ wr = w) (fun _ _ _ => 0)
  case atStart => exact ⟨rfl, rfl, rfl⟩
  case round =>
    obtain ⟨rfl, rfl, rfl⟩ := hrel
    go_wp2
    go_name_slot 16 x0 hx0
    have hxe0 : x0 = ((u % 100 * 2 : Nat) : Int) := by omega
    have hXa0 : ∀ w, (Instr.index 9 (.string Lib.smalls) (.int .u32 (x0 + 1))).run Tryz.prog w = .ok (.int .u8 ((sm (u % 100 * 2 + 1)).toNat : Int)) w := idx_smalls _ t9 .u32 _ _ (by omega) (by omega)
    have hXb0 : ∀ w, (Instr.index 9 (.string Lib.smalls) (.int .u32 x0)).run Tryz.prog w = .ok (.int .u8 ((sm (u % 100 * 2)).toNat : Int)) w := idx_smalls _ t9 .u32 _ _ (by omega) (by omega)
    have hlo0 : 0 ≤ x0 := by omega
    have hhi0 : x0 ≤ 198 := by omega
    clear hx0 hxe0
    go_region_o
    go_wp2
    go_end0
    exact ⟨rfl, ((H.out.set 2 (by omega) _).set 1 (by omega) _).drew, ((Upd.of_setCell _ ⟨A, 2, none⟩ _).trans (Upd.of_setCell _ ⟨A, 1, none⟩ _)).trans (Upd.of_below (Below.drew (Below.refl _ _)) _)⟩
set_option maxHeartbeats 12800000 in
set_option maxRecDepth 100000 in
theorem fb3_c (u : Nat) (h1 : 100 ≤ u) (h2 : u < 3001) (A cap : Nat) (w : World) (h : U8At w A) : Calls Tryz.prog 114 #[.slice (some ⟨A, 1, none⟩) 3 cap, .int .u64 u] w (FbPost w A) := by
  have H := Lib.hid h
  have t9 := Tryz.underlying9
  have mixed : Tryz.prog.follows .mixedOrders = true := by kernel_rfl
  obtain ⟨b1, c1⟩ := h.1 1 (by omega)
  obtain ⟨b2, c2⟩ := h.1 2 (by omega)
  obtain ⟨b3, c3⟩ := h.1 3 (by omega)
  have f1 := h.2 1 (by omega)
  have f2 := h.2 2 (by omega)
  have f3 := h.2 3 (by omega)
  have HD := Lib.hid (show (((UInt8.ofNat (48 + u / 100)).toNat : Nat) : Int) = 48 + (u : Int) / 100 by rw [UInt8.toNat_ofNat']; omega)
  clear h
  go_enter Tryz.func114, Tryz.ntmps114
  go_name_bytes SM hSM
  have eSM : SM = Lib.smalls := by rw [← hSM]; decide +kernel
  subst eSM
  clear hSM
  go_wp2
  go_loopw [1, 4] (fun vu vn wr => vu = .int .u64 u ∧ vn = .int .i64 3 ∧ wr = w) (fun _ _ _ => 0)
  case atStart => exact ⟨rfl, rfl, rfl⟩
  case round =>
    obtain ⟨rfl, rfl, rfl⟩ := hrel
    go_wp2
    go_name_slot 16 x0 hx0
    have hxe0 : x0 = ((u % 100 * 2 : Nat) : Int) := by omega
    have hXa0 : ∀ w, (Instr.index 9 (.string Lib.smalls) (.int .u32 (x0 + 1))).run Tryz.prog w = .ok (.int .u8 ((sm (u % 100 * 2 + 1)).toNat : Int)) w := idx_smalls _ t9 .u32 _ _ (by omega) (by omega)
    have hXb0 : ∀ w, (Instr.index 9 (.string Lib.smalls) (.int .u32 x0)).run Tryz.prog w = .ok (.int .u8 ((sm (u % 100 * 2)).toNat : Int)) w := idx_smalls _ t9 .u32 _ _ (by omega) (by omega)
    have hlo0 : 0 ≤ x0 := by omega
    have hhi0 : x0 ≤ 198 := by omega
    clear hx0 hxe0
    go_region_o
    go_wp2
    go_end0
    refine ⟨rfl, ?_, (((Upd.of_setCell _ ⟨A, 3, none⟩ _).trans (Upd.of_setCell _ ⟨A, 2, none⟩ _)).trans (Upd.of_below (Below.drew (Below.refl _ _)) _)).trans (Upd.of_setCell _ ⟨A, 1, none⟩ _)⟩
    have h := (((H.out.set 3 (by omega) (sm (u % 100 * 2 + 1))).set 2 (by omega) (sm (u % 100 * 2))).drew).set 1 (by omega) (UInt8.ofNat (48 + u / 100))
    rw [HD.out] at h
    exact h
/-- FOUR -/
def fbFour : Nat := 4
set_option maxHeartbeats 12800000 in
set_option maxRecDepth 100000 in
theorem fb4_c (u : Nat) (h1 : 100 ≤ u) (h2 : u < 3001) (A cap : Nat) (w : World) (h : U8At w A) : Calls Tryz.prog 114 #[.slice (some ⟨A, 1, none⟩) 4 cap, .int .u64 u] w (FbPost w A) := by
  have H := Lib.hid h
  have t9 := Tryz.underlying9
  have mixed : Tryz.prog.follows .mixedOrders = true := by kernel_rfl
  obtain ⟨b1, c1⟩ := h.1 1 (by omega)
  obtain ⟨b2, c2⟩ := h.1 2 (by omega)
  obtain ⟨b3, c3⟩ := h.1 3 (by omega)
  obtain ⟨b4, c4⟩ := h.1 4 (by omega)
  have f1 := h.2 1 (by omega)
  have f2 := h.2 2 (by omega)
  have f3 := h.2 3 (by omega)
  have f4 := h.2 4 (by omega)
  clear h
  go_enter Tryz.func114, Tryz.ntmps114
  go_name_bytes SM hSM
  have eSM : SM = Lib.smalls := by rw [← hSM]; decide +kernel
  subst eSM
  clear hSM
  go_wp2
  go_loopw [1, 4] (fun vu vn wr => vu = .int .u64 u ∧ vn = .int .i64 4 ∧ wr = w) (fun _ _ _ => 0)
  case atStart => exact ⟨rfl, rfl, rfl⟩
  case round =>
    obtain ⟨rfl, rfl, rfl⟩ := hrel
    go_wp2
    go_name_slot 15 x0 hx0
    have hxe0 : x0 = ((u % 100 * 2 : Nat) : Int) := by omega
    have hXa0 : ∀ w, (Instr.index 9 (.string Lib.smalls) (.int .u32 (x0 + 1))).run Tryz.prog w = .ok (.int .u8 ((sm (u % 100 * 2 + 1)).toNat : Int)) w := idx_smalls _ t9 .u32 _ _ (by omega) (by omega)
    have hXb0 : ∀ w, (Instr.index 9 (.string Lib.smalls) (.int .u32 x0)).run Tryz.prog w = .ok (.int .u8 ((sm (u % 100 * 2)).toNat : Int)) w := idx_smalls _ t9 .u32 _ _ (by omega) (by omega)
    have hlo0 : 0 ≤ x0 := by omega
    have hhi0 : x0 ≤ 198 := by omega
    go_name_slot 14 x1 hx1
    have hxe1 : x1 = ((u / 100 * 2 : Nat) : Int) := by omega
    have hXa1 : ∀ w, (Instr.index 9 (.string Lib.smalls) (.int .u32 (x1 + 1))).run Tryz.prog w = .ok (.int .u8 ((sm (u / 100 * 2 + 1)).toNat : Int)) w := idx_smalls _ t9 .u32 _ _ (by omega) (by omega)
    have hXb1 : ∀ w, (Instr.index 9 (.string Lib.smalls) (.int .u32 x1)).run Tryz.prog w = .ok (.int .u8 ((sm (u / 100 * 2)).toNat : Int)) w := idx_smalls _ t9 .u32 _ _ (by omega) (by omega)
    have hlo1 : 0 ≤ x1 := by omega
    have hhi1 : x1 ≤ 198 := by omega
    clear hx0 hxe0 hx1 hxe1
    go_region_o
    clear hXa0 hXb0
    go_wp2
    go_region_o
    go_wp2
    go_end0
    refine ⟨rfl, ?_, ((((Upd.of_setCell _ ⟨A, 4, none⟩ _).trans (Upd.of_setCell _ ⟨A, 3, none⟩ _)).trans (Upd.of_below (Below.drew (Below.refl _ _)) _)).trans (Upd.of_setCell _ ⟨A, 2, none⟩ _)).trans ((Upd.of_setCell _ ⟨A, 1, none⟩ _).trans (Upd.of_below (Below.drew (Below.refl _ _)) _))⟩
    exact ((((H.out.set 4 (by omega) (sm (u % 100 * 2 + 1))).set 3 (by omega) (sm (u % 100 * 2))).drew.set 2 (by omega) (sm (u / 100 * 2 + 1))).set 1 (by omega) (sm (u / 100 * 2))).drew
theorem TabU.below {w w' : World} (h : TabU w) (hb : Below w.heap.size w w') : TabU w' := fun i hi => by
  obtain ⟨x, h1, h2⟩ := h i hi
  exact ⟨x, h1, cell_below hb h2⟩
theorem u8_zero (w : World) (T : TypeId) : U8At (w.alloc (.cells Lib.zeros24 T)) w.heap.size := by
  refine ⟨fun t ht => ⟨0, ?_⟩, fun t _ => World.frozen?_alloc_new _ _ _ _⟩
  rw [World.cell?_alloc_new]
  exact Lib.zeros24_at t (by omega)
set_option maxHeartbeats 6400000 in
set_option maxRecDepth 100000 in
theorem fmt_c (u : Nat) (h1 : 100 ≤ u) (h2 : u < 3001) (w : World) (ht : TabU w) : Calls Tryz.prog 111 #[.int .i64 (u : Int), .int .i64 10] w fun e w' => ∃ s : ByteArray, e = .returned (.string s) ∧ Below w.heap.size w w' := by
  have hA : Below w.heap.size w (w.alloc (.cells Lib.zeros24 146)) := (Below.refl _ _).alloc (Nat.le_refl _) _
  have HA := Lib.hid hA
  have HU := Lib.hid (u8_zero w 146)
  have HN := Lib.hid (numD_c u h1 h2 (w.alloc (.cells Lib.zeros24 146)) (ht.below hA))
  have hal : Tryz.prog.arrayLen 146 = 24 := by simp [Program.arrayLen, Tryz.underlying146]
  have HSL := Lib.hid (fun (nd : Nat) (h : nd ≤ 23) (W : World) => (show (Instr.sliceAt 146 (.pointer (some ⟨w.heap.size, 0, none⟩)) (some (.int .i64 1)) (some (.int .i64 (1 + (nd : Int)))) none).run Tryz.prog W = .ok (.slice (some ⟨w.heap.size, 1, none⟩) nd 23) W from by
    rw [run_sliceAt_array_lh W 146 ⟨w.heap.size, 0, none⟩ (by simp [Program.arrayLen, Program.elem, Tryz.underlying146]) .i64 .i64 1 (1 + (nd : Int)) (by omega) (by omega) (by rw [hal]; omega)]
    go_simp
    omega))
  have HFB := Lib.hid (fun (nd : Nat) (h : nd = 2 ∨ nd = 3 ∨ nd = 4) => (show Calls Tryz.prog 114 #[.slice (some ⟨w.heap.size, 1, none⟩) nd 23, .int .u64 u] (w.alloc (.cells Lib.zeros24 146)) (FbPost (w.alloc (.cells Lib.zeros24 146)) w.heap.size) from by
    rcases h with rfl | rfl | rfl
    · exact fb2_c u h1 h2 _ 23 _ HU.out
    · exact fb3_c u h1 h2 _ 23 _ HU.out
    · exact fb4_c u h1 h2 _ 23 _ HU.out))
  have HCV := Lib.hid (fun (nd : Nat) (h : nd ≤ 4) (W : World) (hW : U8At W w.heap.size) => (show ∃ s : ByteArray, (convert 149 9 (.slice (some ⟨w.heap.size, 1, none⟩) nd 23)).run Tryz.prog W = .ok (.string s) W from by
    have hb : ∀ t, ∃ b : UInt8, t < 24 → W.cell? ⟨w.heap.size, t, none⟩ = some (.int .u8 (b.toNat : Int)) := fun t => by
      by_cases ht : t < 24
      · obtain ⟨b, hb⟩ := hW.1 t ht
        exact ⟨b, fun _ => hb⟩
      · exact ⟨0, fun h => absurd h ht⟩
    obtain ⟨g, hg⟩ := Classical.axiomOfChoice hb
    have h3 := run_convert_bytes_back (P := Tryz.prog) W 149 9 5 ⟨w.heap.size, 1, none⟩ 23 ((List.range nd).map fun t => g (1 + t)) Tryz.underlying149 Tryz.underlying5 Tryz.underlying9 (fun j hj => by
      have hj2 : j < nd := by simpa using hj
      rw [Lib.add_plain]
      simp only [List.getElem_map, List.getElem_range]
      exact hg (1 + j) (by omega))
    simp only [List.length_map, List.length_range] at h3
    exact ⟨_, h3⟩))
  clear hA ht hal
  go_enter Tryz.func111, Tryz.ntmps111
  go_wp2_with fail
  refine HN.out.mono ?_; rintro e w' ⟨⟨nd, rfl, HND⟩, rfl⟩
  obtain ⟨hn0, hn1⟩ := HND.out
  have hsl := HSL.out nd (by omega)
  go_wp2_with fail
  refine (HFB.out nd (by omega)).mono ?_; rintro e w2 ⟨rfl, hu8, hupd⟩
  obtain ⟨s, hcv⟩ := HCV.out nd (by omega) w2 hu8
  have HB := Lib.hid (HA.out.trans (hupd.below (by simp) (fun g e => by injection e with e; omega)))
  clear hu8 hupd
  go_wp2
  go_ret
  exact ⟨s, rfl, HB.out⟩
theorem itoa_mid (u : Nat) (h1 : 100 ≤ u) (h2 : u < 3001) (w : World) (ht : TabU w) : Calls Tryz.prog 109 #[.int .i64 (u : Int)] w fun e w' => ∃ s : ByteArray, e = .returned (.string s) ∧ Below w.heap.size w w' := by
  have HF := Lib.hid (fmt_c u h1 h2 w ht)
  have HI := Lib.hid (show Calls Tryz.prog 110 #[.int .i64 (u : Int)] w (fun e w' => ∃ s : ByteArray, e = .returned (.string s) ∧ Below w.heap.size w w') from by
    clear ht
    go_enter Tryz.func110, Tryz.ntmps110
    go_wp2_with fail
    refine HF.out.mono ?_; rintro e w1 ⟨s, rfl, hb⟩
    have HB := Lib.hid hb
    clear hb
    go_wp2
    go_ret
    exact ⟨s, rfl, HB.out⟩)
  clear ht
  go_enter Tryz.func109, Tryz.ntmps109
  go_wp2_with fail
  refine HI.out.mono ?_; rintro e w1 ⟨s, rfl, hb⟩
  have HB := Lib.hid hb
  clear hb
  go_wp2
  go_ret
  exact ⟨s, rfl, HB.out⟩
theorem itoC_all (w : World) (ht : TabU w) : ItoC 3001 w := fun W hW i hi => by
  by_cases h : i < 100
  · exact (Tryz.strconv_Itoa_small i h W).mono fun _ _ ⟨h1, h2⟩ => ⟨_, h1, by rw [h2]; exact Below.refl _ _⟩
  · exact itoa_mid i (by omega) hi W (ht.below hW)
end Go.Proofs.YtnmojmmgkipjcaaGreatDoor
