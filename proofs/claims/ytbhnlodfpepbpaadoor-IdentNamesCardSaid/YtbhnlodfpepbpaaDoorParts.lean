/- The walks of keys: Join, Part, strings.Cut at one byte; program and document. Conditions: lengths within what a string may have. -/
import Derived.Test.YtbhnlodfpepbpaaDoorNamed
import Derived.Test.YtbhnlodfpepbpaaDoorShelf
import Derived.WalkSpells
import Derived.WalkLawsBesides
import Derived.Handy
import Derived.BigQuiet
namespace Go.Proofs.YtbhnlodfpepbpaaDoor
open Go.RowKit
/-- The text cut at the place i, and behind it; what a key's parts are. -/
def headS (s : ByteArray) (i : Nat) : ByteArray := s.extract 0 i
def tailS (s : ByteArray) (i : Nat) : ByteArray := s.extract (i + 1) s.size
def slash (s : ByteArray) : Int := Lib.indexByte s.data.toList 47
set_option maxHeartbeats 400000 in
theorem join_c (a b : ByteArray) (h : a.size + 1 + b.size ≤ 9223372036854775807) (w : World) :
    Calls Tryd.prog 36 #[.string a, .string b] w fun e w' => e = .returned (.string (a ++ ⟨#[47]⟩ ++ b)) ∧ w' = w := by
  have h1 := fun w => run_string_add_sum (P := Tryd.prog) w a ⟨#[47]⟩ (by show a.size + 1 ≤ _; omega)
  have h2 := fun w => run_string_add_sum (P := Tryd.prog) w (a ++ ⟨#[47]⟩) b (by rw [ByteArray.size_append]; show a.size + 1 + b.size ≤ _; omega)
  generalize a ++ ⟨#[47]⟩ = c at *
  generalize c ++ b = d at *
  go_enter Tryd.func36, Tryd.ntmps36
  go_wp2
  go_ret
  exact ⟨rfl, rfl⟩
set_option maxHeartbeats 400000 in
theorem cutAt_c (s : ByteArray) (hs : s.size ≤ maxLen) (i : Nat) (hi : slash s = (i : Int)) (hlt : i < s.size) (w : World) :
    Calls Tryd.prog 45 #[.string s, .string ⟨#[47]⟩] w fun e w' => e = .returned (.tuple #[.string (headS s i), .string (tailS s i), .bool true]) ∧ ∃ n, w' = w.drewN n := by
  unfold maxLen at hs
  have hc := Tryd.stringslite_Index_one s 47 w
  unfold slash at hi
  rw [hi] at hc
  clear hi
  go_enter Tryd.func45, Tryd.ntmps45
  go_wp2_with fail
  refine hc.mono ?_; rintro e w1 ⟨rfl, rfl⟩
  clear hc
  go_wp2
  go_quiet (fail)
  go_wp2
  go_ret3
  exact ⟨rfl, _, rfl⟩
set_option maxHeartbeats 400000 in
theorem cutNone_c (s : ByteArray) (hi : slash s = -1) (w : World) :
    Calls Tryd.prog 45 #[.string s, .string ⟨#[47]⟩] w fun e w' => e = .returned (.tuple #[.string s, .string ⟨#[]⟩, .bool false]) ∧ ∃ n, w' = w.drewN n := by
  have hc := Tryd.stringslite_Index_one s 47 w
  unfold slash at hi
  rw [hi] at hc
  clear hi
  go_enter Tryd.func45, Tryd.ntmps45
  go_wp2_with fail
  refine hc.mono ?_; rintro e w1 ⟨rfl, rfl⟩
  clear hc
  go_wp2
  go_ret3
  exact ⟨rfl, 0, rfl⟩
set_option maxHeartbeats 400000 in
theorem scut_c (s a b : ByteArray) (ok : Bool) (w : World)
    (h : Calls Tryd.prog 45 #[.string s, .string ⟨#[47]⟩] w fun e w' => e = .returned (.tuple #[.string a, .string b, .bool ok]) ∧ ∃ n, w' = w.drewN n) :
    Calls Tryd.prog 43 #[.string s, .string ⟨#[47]⟩] w fun e w' => e = .returned (.tuple #[.string a, .string b, .bool ok]) ∧ ∃ n, w' = w.drewN n := by
  have HC := Lib.hid h; clear h
  go_enter Tryd.func43, Tryd.ntmps43
  go_wp2_with fail
  refine HC.out.mono ?_; rintro e w1 ⟨rfl, n, rfl⟩
  clear HC
  go_wp2
  go_ret3
  exact ⟨rfl, _, rfl⟩
end Go.Proofs.YtbhnlodfpepbpaaDoor
