/- The short session of live, in plain Lean. Conditions: none. -/
import Derived.Test.YtkpickojeghppaaDoorWcfd
namespace Go.Proofs.YtkpickojeghppaaDoor
open Go.RowKit
noncomputable def lvC1 : Cl := ((cl0 true).ask ⟨#[113]⟩).1
noncomputable def lvS1 : Sv := sv0.feed lvC1.out
noncomputable def lvS2 : Sv := (lvS1.next.answer ⟨#[97]⟩).1
noncomputable def lvC2 : Cl := ({ lvC1 with out := [] } : Cl).feed lvS2.out
theorem lv_ask : (cl0 true).ask ⟨#[113]⟩ = (lvC1, 2, 0) := by kernel_rfl
theorem lv_next : lvS1.nextV = .tuple #[.int .u32 2, .string ⟨#[113]⟩, .bool true] := by kernel_rfl
theorem lv_answer : lvS1.next.answer ⟨#[97]⟩ = (lvS2, 0) := by kernel_rfl
theorem lv_reply : lvC2.reply.2 = .tuple #[.int .u32 2, .string ⟨#[97]⟩, .bool true] := by kernel_rfl
theorem lv_sum : crc [49, 50, 51, 52, 53, 54, 55, 56, 57] = 3808858755 := by kernel_rfl
def lvM : WMsg := ⟨7, 0, 3, ⟨#[120]⟩, false⟩
theorem lv_pack : packE lvM = 0 := by kernel_rfl
theorem lv_unpack : unpack (packL lvM) = .ok lvM 25 := by kernel_rfl
theorem lv_packlen : (packL lvM).length = 25 := by kernel_rfl
theorem lv_c0 : (cl0 true).out.length ≤ 1000 ∧ (cl0 true).id ≤ 1000 ∧ (cl0 true).asked.length ≤ 16 := by decide +kernel
theorem lv_c1 : lvC1.out.length ≤ 1000 ∧ lvC1.id ≤ 1000 ∧ lvC1.asked.length ≤ 16 ∧ lvC1.inp.length ≤ 1000 ∧ lvC1.came.length ≤ 1000 := by decide +kernel
theorem lv_s1 : lvS1.out.length ≤ 1000 ∧ lvS1.held.length ≤ 16 ∧ lvS1.next.out.length ≤ 1000 := by decide +kernel
theorem lv_s1ok : lvS1.next.bye < 4294967296 ∧ lvS1.next.held.length ≤ 16 ∧ (∀ x ∈ lvS1.next.held, x.1 < 4294967296) := by decide +kernel
theorem lv_s2 : lvS2.out.length ≤ 1000 := by decide +kernel
end Go.Proofs.YtkpickojeghppaaDoor
