/- The walk of same; Unpack of the document at no bytes. Conditions: none. -/
import Derived.Test.YtkpickojeghppaaDoorWlive
namespace Go.Proofs.YtkpickojeghppaaDoor
open Go.RowKit
theorem conv_any {A : Option Addr} {l : List UInt8} (cap : Nat) (w : World) (h : BytesIn w A l) : (convert 28 9 (.slice A l.length cap)).run Tryd.prog w = .ok (.string ⟨l.toArray⟩) w := by
  rcases h with rfl | ⟨G, o, rfl, hr⟩
  · cases A with
    | none => exact run_convert_bytes_nil (P := Tryd.prog) (w := w) 28 5 bytTy.slice Tryd.underlying5 0 cap 9 Tryd.underlying9
    | some a =>
      rw [run_convert_bytes_string (P := Tryd.prog) w 28 9 5 (some a) _ cap bytTy.slice Tryd.underlying5 Tryd.underlying9]
      exact run_bytesToString (P := Tryd.prog) w a 0 cap [] (by simp [loadCells, loadCellsFrom, Sem.run_pure])
  · have := conv_bytes hr 0 l.length l.length cap (Nat.zero_le _) (Nat.le_refl _) (by omega)
    simpa [bodyOf] using this
set_option maxRecDepth 20000 in
set_option maxHeartbeats 4000000 in
theorem same_c (A B : Option Addr) (l m : List UInt8) (c d : Nat) (w : World) (ha : BytesIn w A l) (hb : BytesIn w B m) :
    Calls Tryd.prog 17 #[.slice A l.length c, .slice B m.length d] w fun e w' => e = .returned (.bool (l == m)) ∧ w = w' := by
  have k1 := conv_any c w ha
  have k2 := conv_any d w hb
  have hq : ((⟨l.toArray⟩ : ByteArray).toList == (⟨m.toArray⟩ : ByteArray).toList) = (l == m) := by rw [ByteArray.toList_eq, ByteArray.toList_eq]
  clear ha hb
  generalize l.length = n at *
  generalize m.length = n2 at *
  generalize (⟨l.toArray⟩ : ByteArray) = s at *
  generalize (⟨m.toArray⟩ : ByteArray) = t at *
  generalize (l == m) = r at *
  have HQ := Lib.hid hq
  clear hq
  go_enter Tryd.func17, Tryd.ntmps17
  go_wp2
  go_ret
  exact ⟨ret_bool HQ.out, rfl⟩
set_option maxRecDepth 20000 in
set_option maxHeartbeats 4000000 in
theorem refUnpack_none (A : Option Addr) (cap : Nat) (w : World) : Calls Tryd.prog 16 #[.slice A 0 cap] w (UnPost (.bad 3) w) := by
  go_enter Tryd.func16, Tryd.ntmps16
  go_wp2
  go_loopg [6] 1 (fun gk i wr => i = .int .i64 0 ∧ 0 < gk ∧ wr = (w.alloc (.cells #[.int .u32 0, .int .u32 0, .int .i64 0, .string ⟨#[]⟩, .bool false] 27)))
  case atStart => exact ⟨rfl, by omega, rfl⟩
  case round =>
    obtain ⟨rfl, hgk, rfl⟩ := hrel
    have HH := Lib.hid (heap_alloc_new w (.cells #[.int .u32 0, .int .u32 0, .int .i64 0, .string ⟨#[]⟩, .bool false] 27))
    go_wp2
    refine bodyPost_ret (results_cell2 rfl _ _ w.heap.size 27 _ (0, 0) _ (by rfl) HH.out Tryd.underlying27 rfl (by kernel_rfl)) rfl ?_
    exact ⟨rfl, (Below.refl _ _).alloc (Nat.le_refl _) _⟩
end Go.Proofs.YtkpickojeghppaaDoor
