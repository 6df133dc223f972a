/- The walks of the document's reader of schemas: schema and rule. Conditions: what the tree holds is at most 2 to the 40. -/
import Derived.Test.YtnmojmmgkipjcaaDoorPlaina
import Derived.Deep.RegionWith
namespace Go.Proofs.YtnmojmmgkipjcaaDoor
open Go.RowKit
theorem Rep.upd {w w' : World} {ok : Nat → Prop} {t : JV} {cs : List Value} {C : Nat} (h : Rep w ok t cs) (hC : ¬ ok C) (hu : Upd w w' (some C) (some C)) : Rep w' ok t cs :=
  Rep.kept (fun b hlt ho => ⟨ho, hu.block hlt (fun e => hC (by injection e with e; rw [e]; exact ho))⟩) t cs h
theorem ItemsAt.upd {w w' : World} {ok : Nat → Prop} {a : Option Addr} {l : List JV} {C : Nat} (h : ItemsAt w ok a l) (hC : ¬ ok C) (hu : Upd w w' (some C) (some C)) : ItemsAt w' ok a l :=
  h.kept (fun b hlt ho => ⟨ho, hu.block hlt (fun e => hC (by injection e with e; rw [e]; exact ho))⟩)
theorem StrsAt.upd {w w' : World} {ok : Nat → Prop} {a : Option Addr} {l : List ByteArray} {C : Nat} (h : StrsAt w ok a l) (hC : ¬ ok C) (hu : Upd w w' (some C) (some C)) : StrsAt w' ok a l :=
  h.kept (fun b hlt ho => ⟨ho, hu.block hlt (fun e => hC (by injection e with e; rw [e]; exact ho))⟩)
theorem StrsAt.at {w : World} {ok : Nat → Prop} {a : Option Addr} {l : List ByteArray} (h : StrsAt w ok a l) (j : Nat) (hj : j < l.length) : ∃ b off, a = some ⟨b, off, none⟩ ∧ w.cell? ⟨b, off + j, none⟩ = some (.string l[j]) := by
  rcases h with rfl | ⟨b, off, rfl, _, hl⟩
  · simp at hj
  · exact ⟨b, off, rfl, hl j _ (by simp [hj])⟩
end Go.Proofs.YtnmojmmgkipjcaaDoor
