/-
  NARROWER THAN 'FOR EVERY INPUT', by the rows' own cells (each row's printed sentence says how): IdentMixes: laid · IdentMeets: laid · IdentSums: laid · IdentMakes: laid · IdentNil: laid · IdentNames: laid · IdentKeys: laid.
  DERIVED. THE GIVEN ROWS OF THIS SEAT. 7 by the template 'for every input the law returns true; each argument reads behind the call as it read before'; 0 by the template 'total and deterministic' (their statements: YtbhnlodfpepbpaaDoorTotals.lean).
  GIVEN WITH THE SEED: the statements are not yours to turn. If you find one false, say at which input.
  Laid BY PROGRAM, IN A SANDBOX (cutbox-rows.mjs): the forced cells as the released guide's own fill.sh prints them over the translation 8e40144f1c7c9c0c… (all of the seat's roots in one cut). By AI agents, Wed Nov 11 2026. No macro, syntax, notation, axiom, sorry.
-/
import Derived.Test.YtbhnlodfpepbpaaDoorChecked
import GoSem.Claim
import GoSem.ClaimJoined
import GoSem.ClaimMapViews
import Derived.JoinedTies
import Derived.KernelRfl
namespace Go.Proofs.YtbhnlodfpepbpaaDoor
/- THE CELL 'sum', in the pinned program and in every row, IS THE sha256 OF THE DUMP (.gsa) THAT YtbhnlodfpepbpaaDoorProg.lean LOADS. Nothing in Lean hashes anything: it is a label: what it is worth is what the hold of that sum in a sandbox is worth. -/
noncomputable def Tryd.pinned : Pinned := { name := "ytbhnlodfpepbpaadoor", sum := "8e40144f1c7c9c0cdc8c66e5e2ad74d98251b36a88b7ef841981fa955c8b3fee", checked := Tryd.checked }
namespace Rows
def none {H : Type} : Left H := { results := [], args := [] }

/- WHAT THE LISTED PACKAGE-LEVEL VARIABLES READ AS WHEN THE CALL BEGINS. Each datum BY PROGRAM (the guide's laid-datum.mjs) off the statement by which the dump's own 'gosem.cut.vars' lays the variable. In a bare row this is a premise. The card (YtbhnlodfpepbpaaDoorCards.lean) ties it to the program's text. -/
def laid_docket_ident_shifts {H : Type} : DataW H := .agg [.lit (.int .u64 30), .lit (.int .u64 27), .lit (.int .u64 31)]
def laid_docket_ident_factors {H : Type} : DataW H := .agg [.lit (.int .u64 13787848793156543929), .lit (.int .u64 10723151780598845931)]

/-- 'docketlaw08.IdentMixes': WHATEVER THE INPUT: true; the input reads as it did. -/
def identMixesSpec : ChangeSpec := { name := "identMixes", fn := fun _ => fun
  | [d] => { results := [.lit (.bool true)], args := [d] }
  | _ => none }
def identMixesRow : OpenClaim := { program := "ytbhnlodfpepbpaadoor", sum := "8e40144f1c7c9c0cdc8c66e5e2ad74d98251b36a88b7ef841981fa955c8b3fee", func := "docket/docketlaw08.IdentMixes", spec := "identMixes", inPlace := ["internal/bytealg.IndexByteString"], named := ["docket/ident.shifts", "docket/ident.factors"], apart := false, laid := [("docket/ident.shifts", laid_docket_ident_shifts), ("docket/ident.factors", laid_docket_ident_factors)] }
def IdentMixesSaid : Prop := identMixesRow.holds Tryd.pinned (OpenSpec.ofChange identMixesSpec)

/-- ITS FALSE NEIGHBOUR: 'it returns false'. Refute it at one input. -/
def identMixesWrong : ChangeSpec := { name := "identMixes", fn := fun _ => fun
  | [d] => { results := [.lit (.bool false)], args := [d] }
  | _ => none }
def IdentMixesWrongFalsely : Prop := identMixesRow.holds Tryd.pinned (OpenSpec.ofChange identMixesWrong)

/-- 'docketlaw08.IdentMeets': WHATEVER THE INPUT: true; the input reads as it did. -/
def identMeetsSpec : ChangeSpec := { name := "identMeets", fn := fun _ => fun
  | [d1, d2, d3] => { results := [.lit (.bool true)], args := [d1, d2, d3] }
  | _ => none }
def identMeetsRow : OpenClaim := { program := "ytbhnlodfpepbpaadoor", sum := "8e40144f1c7c9c0cdc8c66e5e2ad74d98251b36a88b7ef841981fa955c8b3fee", func := "docket/docketlaw08.IdentMeets", spec := "identMeets", inPlace := ["internal/bytealg.IndexByteString"], named := ["docket/ident.shifts", "docket/ident.factors"], apart := false, laid := [("docket/ident.shifts", laid_docket_ident_shifts), ("docket/ident.factors", laid_docket_ident_factors)] }
def IdentMeetsSaid : Prop := identMeetsRow.holds Tryd.pinned (OpenSpec.ofChange identMeetsSpec)

/-- ITS FALSE NEIGHBOUR: 'it returns false'. Refute it at one input. -/
def identMeetsWrong : ChangeSpec := { name := "identMeets", fn := fun _ => fun
  | [d1, d2, d3] => { results := [.lit (.bool false)], args := [d1, d2, d3] }
  | _ => none }
def IdentMeetsWrongFalsely : Prop := identMeetsRow.holds Tryd.pinned (OpenSpec.ofChange identMeetsWrong)

/-- 'docketlaw08.IdentSums': WHATEVER THE INPUT: true; the input reads as it did. -/
def identSumsSpec : ChangeSpec := { name := "identSums", fn := fun _ => fun
  | [d] => { results := [.lit (.bool true)], args := [d] }
  | _ => none }
def identSumsRow : OpenClaim := { program := "ytbhnlodfpepbpaadoor", sum := "8e40144f1c7c9c0cdc8c66e5e2ad74d98251b36a88b7ef841981fa955c8b3fee", func := "docket/docketlaw08.IdentSums", spec := "identSums", inPlace := ["internal/bytealg.IndexByteString"], named := ["docket/ident.shifts", "docket/ident.factors"], apart := false, laid := [("docket/ident.shifts", laid_docket_ident_shifts), ("docket/ident.factors", laid_docket_ident_factors)] }
def IdentSumsSaid : Prop := identSumsRow.holds Tryd.pinned (OpenSpec.ofChange identSumsSpec)

/-- ITS FALSE NEIGHBOUR: 'it returns false'. Refute it at one input. -/
def identSumsWrong : ChangeSpec := { name := "identSums", fn := fun _ => fun
  | [d] => { results := [.lit (.bool false)], args := [d] }
  | _ => none }
def IdentSumsWrongFalsely : Prop := identSumsRow.holds Tryd.pinned (OpenSpec.ofChange identSumsWrong)

/-- 'docketlaw08.IdentMakes': WHATEVER THE INPUT: true; the input reads as it did. -/
def identMakesSpec : ChangeSpec := { name := "identMakes", fn := fun _ => fun
  | [d] => { results := [.lit (.bool true)], args := [d] }
  | _ => none }
def identMakesRow : OpenClaim := { program := "ytbhnlodfpepbpaadoor", sum := "8e40144f1c7c9c0cdc8c66e5e2ad74d98251b36a88b7ef841981fa955c8b3fee", func := "docket/docketlaw08.IdentMakes", spec := "identMakes", inPlace := ["internal/bytealg.IndexByteString"], named := ["docket/ident.shifts", "docket/ident.factors"], apart := false, laid := [("docket/ident.shifts", laid_docket_ident_shifts), ("docket/ident.factors", laid_docket_ident_factors)] }
def IdentMakesSaid : Prop := identMakesRow.holds Tryd.pinned (OpenSpec.ofChange identMakesSpec)

/-- ITS FALSE NEIGHBOUR: 'it returns false'. Refute it at one input. -/
def identMakesWrong : ChangeSpec := { name := "identMakes", fn := fun _ => fun
  | [d] => { results := [.lit (.bool false)], args := [d] }
  | _ => none }
def IdentMakesWrongFalsely : Prop := identMakesRow.holds Tryd.pinned (OpenSpec.ofChange identMakesWrong)

/-- 'docketlaw08.IdentNil': WHATEVER THE INPUT: true; the input reads as it did. -/
def identNilSpec : ChangeSpec := { name := "identNil", fn := fun _ => fun
  | [] => { results := [.lit (.bool true)], args := [] }
  | _ => none }
def identNilRow : OpenClaim := { program := "ytbhnlodfpepbpaadoor", sum := "8e40144f1c7c9c0cdc8c66e5e2ad74d98251b36a88b7ef841981fa955c8b3fee", func := "docket/docketlaw08.IdentNil", spec := "identNil", inPlace := ["internal/bytealg.IndexByteString"], named := ["docket/ident.shifts", "docket/ident.factors"], apart := false, laid := [("docket/ident.shifts", laid_docket_ident_shifts), ("docket/ident.factors", laid_docket_ident_factors)] }
def IdentNilSaid : Prop := identNilRow.holds Tryd.pinned (OpenSpec.ofChange identNilSpec)

/-- ITS FALSE NEIGHBOUR: 'it returns false'. Refute it at one input. -/
def identNilWrong : ChangeSpec := { name := "identNil", fn := fun _ => fun
  | [] => { results := [.lit (.bool false)], args := [] }
  | _ => none }
def IdentNilWrongFalsely : Prop := identNilRow.holds Tryd.pinned (OpenSpec.ofChange identNilWrong)

/-- 'docketlaw08.IdentNames': WHATEVER THE INPUT: true; the input reads as it did. -/
def identNamesSpec : ChangeSpec := { name := "identNames", fn := fun _ => fun
  | [d1, d2] => { results := [.lit (.bool true)], args := [d1, d2] }
  | _ => none }
def identNamesRow : OpenClaim := { program := "ytbhnlodfpepbpaadoor", sum := "8e40144f1c7c9c0cdc8c66e5e2ad74d98251b36a88b7ef841981fa955c8b3fee", func := "docket/docketlaw08.IdentNames", spec := "identNames", inPlace := ["internal/bytealg.IndexByteString", "internal/bytealg.IndexString"], named := ["internal/bytealg.MaxLen", "docket/ident.shifts", "docket/ident.factors"], apart := false, laid := [("docket/ident.shifts", laid_docket_ident_shifts), ("docket/ident.factors", laid_docket_ident_factors)] }
def IdentNamesSaid : Prop := identNamesRow.holds Tryd.pinned (OpenSpec.ofChange identNamesSpec)

/-- ITS FALSE NEIGHBOUR: 'it returns false'. Refute it at one input. -/
def identNamesWrong : ChangeSpec := { name := "identNames", fn := fun _ => fun
  | [d1, d2] => { results := [.lit (.bool false)], args := [d1, d2] }
  | _ => none }
def IdentNamesWrongFalsely : Prop := identNamesRow.holds Tryd.pinned (OpenSpec.ofChange identNamesWrong)

/-- 'docketlaw08.IdentKeys': WHATEVER THE INPUT: true; the input reads as it did. -/
def identKeysSpec : ChangeSpec := { name := "identKeys", fn := fun _ => fun
  | [d] => { results := [.lit (.bool true)], args := [d] }
  | _ => none }
def identKeysRow : OpenClaim := { program := "ytbhnlodfpepbpaadoor", sum := "8e40144f1c7c9c0cdc8c66e5e2ad74d98251b36a88b7ef841981fa955c8b3fee", func := "docket/docketlaw08.IdentKeys", spec := "identKeys", inPlace := ["internal/bytealg.IndexByteString", "internal/bytealg.IndexString"], named := ["docket/ident.shifts", "docket/ident.factors", "internal/bytealg.MaxLen"], apart := false, laid := [("docket/ident.shifts", laid_docket_ident_shifts), ("docket/ident.factors", laid_docket_ident_factors)] }
def IdentKeysSaid : Prop := identKeysRow.holds Tryd.pinned (OpenSpec.ofChange identKeysSpec)

/-- ITS FALSE NEIGHBOUR: 'it returns false'. Refute it at one input. -/
def identKeysWrong : ChangeSpec := { name := "identKeys", fn := fun _ => fun
  | [d] => { results := [.lit (.bool false)], args := [d] }
  | _ => none }
def IdentKeysWrongFalsely : Prop := identKeysRow.holds Tryd.pinned (OpenSpec.ofChange identKeysWrong)

/- THE SECOND FORM. 'bulk': how many values and letters a reading holds, each counted each time it is reached (what is shared counts as often as it is met; a slice's spare places count too). A statement '..UptoSaid' is the law's where the arguments, and the package variables that the reading takes, are together of bulk at most 1048576: NARROWER than '..Said'. Prove '..Said' where nothing that the law and all that it calls make is longer than what came in: it says more and counts as full. Else prove '..UptoSaid'. A law counts once. -/
mutual
def uptoBulk {H : Type} : DataW H → Nat
  | .lit (.string bytes) => bytes.length + 1
  | .lit _ => 1
  | .nil => 1
  | .ptr d => uptoBulk d + 1
  | .slice elems spare => uptoBulkAll elems + uptoBulkAll spare + 1
  | .agg parts => uptoBulkAll parts + 1
  | .iface _ d => uptoBulk d + 1
  | .map entries => uptoBulkEntries entries + 1
  | .held _ => 1
def uptoBulkAll {H : Type} : List (DataW H) → Nat
  | [] => 0
  | d :: r => uptoBulk d + uptoBulkAll r
def uptoBulkEntries {H : Type} : List (Lit × DataW H) → Nat
  | [] => 0
  | x :: r => uptoBulkEntry x + uptoBulkEntries r
def uptoBulkEntry {H : Type} : Lit × DataW H → Nat
  | (.string bytes, d) => bytes.length + uptoBulk d + 1
  | (_, d) => uptoBulk d + 1
 end
def uptoSmall : (H : Type) → List (DataW H) → Bool := fun _ ds => decide (uptoBulkAll ds ≤ 1048576)
def OpenSpec.upto (s : _root_.Go.ChangeSpec) : _root_.Go.OpenSpec := { _root_.Go.OpenSpec.ofChange s with cond := some uptoSmall }

/-- 'docketlaw08.IdentMixes', WHERE WHAT IT READS IS OF BULK AT MOST 1048576: true; the input reads as it did. -/
def identMixesUptoRow : OpenClaim := { program := "ytbhnlodfpepbpaadoor", sum := "8e40144f1c7c9c0cdc8c66e5e2ad74d98251b36a88b7ef841981fa955c8b3fee", func := "docket/docketlaw08.IdentMixes", spec := "identMixes", inPlace := ["internal/bytealg.IndexByteString"], named := ["docket/ident.shifts", "docket/ident.factors"], apart := false, laid := [("docket/ident.shifts", laid_docket_ident_shifts), ("docket/ident.factors", laid_docket_ident_factors)], narrowed := true }
def IdentMixesUptoSaid : Prop := identMixesUptoRow.holds Tryd.pinned (OpenSpec.upto identMixesSpec)

/-- 'docketlaw08.IdentMeets', WHERE WHAT IT READS IS OF BULK AT MOST 1048576: true; the input reads as it did. -/
def identMeetsUptoRow : OpenClaim := { program := "ytbhnlodfpepbpaadoor", sum := "8e40144f1c7c9c0cdc8c66e5e2ad74d98251b36a88b7ef841981fa955c8b3fee", func := "docket/docketlaw08.IdentMeets", spec := "identMeets", inPlace := ["internal/bytealg.IndexByteString"], named := ["docket/ident.shifts", "docket/ident.factors"], apart := false, laid := [("docket/ident.shifts", laid_docket_ident_shifts), ("docket/ident.factors", laid_docket_ident_factors)], narrowed := true }
def IdentMeetsUptoSaid : Prop := identMeetsUptoRow.holds Tryd.pinned (OpenSpec.upto identMeetsSpec)

/-- 'docketlaw08.IdentSums', WHERE WHAT IT READS IS OF BULK AT MOST 1048576: true; the input reads as it did. -/
def identSumsUptoRow : OpenClaim := { program := "ytbhnlodfpepbpaadoor", sum := "8e40144f1c7c9c0cdc8c66e5e2ad74d98251b36a88b7ef841981fa955c8b3fee", func := "docket/docketlaw08.IdentSums", spec := "identSums", inPlace := ["internal/bytealg.IndexByteString"], named := ["docket/ident.shifts", "docket/ident.factors"], apart := false, laid := [("docket/ident.shifts", laid_docket_ident_shifts), ("docket/ident.factors", laid_docket_ident_factors)], narrowed := true }
def IdentSumsUptoSaid : Prop := identSumsUptoRow.holds Tryd.pinned (OpenSpec.upto identSumsSpec)

/-- 'docketlaw08.IdentMakes', WHERE WHAT IT READS IS OF BULK AT MOST 1048576: true; the input reads as it did. -/
def identMakesUptoRow : OpenClaim := { program := "ytbhnlodfpepbpaadoor", sum := "8e40144f1c7c9c0cdc8c66e5e2ad74d98251b36a88b7ef841981fa955c8b3fee", func := "docket/docketlaw08.IdentMakes", spec := "identMakes", inPlace := ["internal/bytealg.IndexByteString"], named := ["docket/ident.shifts", "docket/ident.factors"], apart := false, laid := [("docket/ident.shifts", laid_docket_ident_shifts), ("docket/ident.factors", laid_docket_ident_factors)], narrowed := true }
def IdentMakesUptoSaid : Prop := identMakesUptoRow.holds Tryd.pinned (OpenSpec.upto identMakesSpec)

/-- 'docketlaw08.IdentNil', WHERE WHAT IT READS IS OF BULK AT MOST 1048576: true; the input reads as it did. -/
def identNilUptoRow : OpenClaim := { program := "ytbhnlodfpepbpaadoor", sum := "8e40144f1c7c9c0cdc8c66e5e2ad74d98251b36a88b7ef841981fa955c8b3fee", func := "docket/docketlaw08.IdentNil", spec := "identNil", inPlace := ["internal/bytealg.IndexByteString"], named := ["docket/ident.shifts", "docket/ident.factors"], apart := false, laid := [("docket/ident.shifts", laid_docket_ident_shifts), ("docket/ident.factors", laid_docket_ident_factors)], narrowed := true }
def IdentNilUptoSaid : Prop := identNilUptoRow.holds Tryd.pinned (OpenSpec.upto identNilSpec)

/-- 'docketlaw08.IdentNames', WHERE WHAT IT READS IS OF BULK AT MOST 1048576: true; the input reads as it did. -/
def identNamesUptoRow : OpenClaim := { program := "ytbhnlodfpepbpaadoor", sum := "8e40144f1c7c9c0cdc8c66e5e2ad74d98251b36a88b7ef841981fa955c8b3fee", func := "docket/docketlaw08.IdentNames", spec := "identNames", inPlace := ["internal/bytealg.IndexByteString", "internal/bytealg.IndexString"], named := ["internal/bytealg.MaxLen", "docket/ident.shifts", "docket/ident.factors"], apart := false, laid := [("docket/ident.shifts", laid_docket_ident_shifts), ("docket/ident.factors", laid_docket_ident_factors)], narrowed := true }
def IdentNamesUptoSaid : Prop := identNamesUptoRow.holds Tryd.pinned (OpenSpec.upto identNamesSpec)

/-- 'docketlaw08.IdentKeys', WHERE WHAT IT READS IS OF BULK AT MOST 1048576: true; the input reads as it did. -/
def identKeysUptoRow : OpenClaim := { program := "ytbhnlodfpepbpaadoor", sum := "8e40144f1c7c9c0cdc8c66e5e2ad74d98251b36a88b7ef841981fa955c8b3fee", func := "docket/docketlaw08.IdentKeys", spec := "identKeys", inPlace := ["internal/bytealg.IndexByteString", "internal/bytealg.IndexString"], named := ["docket/ident.shifts", "docket/ident.factors", "internal/bytealg.MaxLen"], apart := false, laid := [("docket/ident.shifts", laid_docket_ident_shifts), ("docket/ident.factors", laid_docket_ident_factors)], narrowed := true }
def IdentKeysUptoSaid : Prop := identKeysUptoRow.holds Tryd.pinned (OpenSpec.upto identKeysSpec)

end Rows
end Go.Proofs.YtbhnlodfpepbpaaDoor
