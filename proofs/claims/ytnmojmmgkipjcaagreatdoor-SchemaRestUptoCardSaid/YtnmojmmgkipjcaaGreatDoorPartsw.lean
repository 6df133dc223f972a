/- The walks of Parts and large. Conditions: what the tree holds is at most 2 to the 40. -/
import Derived.Test.YtnmojmmgkipjcaaGreatDoorRows
import Derived.Test.YtnmojmmgkipjcaaGreatDoorBasea
import Derived.WalkKit
import Derived.WalkSpells
import Derived.WalkLawsBesides
import Derived.Handy
import Derived.BigQuiet
import Derived.Lib.QuietBelow
namespace Go.Proofs.YtnmojmmgkipjcaaGreatDoor
open Go.RowKit
theorem lie5 {w : World} {b off : Nat} {c0 c1 c2 c3 c4 : Value} (h : Lie w b off [c0, c1, c2, c3, c4]) :
    w.cell? ⟨b, off, none⟩ = some c0 ∧ w.cell? ⟨b, off + 1, none⟩ = some c1 ∧ w.cell? ⟨b, off + 2, none⟩ = some c2 ∧ w.cell? ⟨b, off + 3, none⟩ = some c3 ∧ w.cell? ⟨b, off + 4, none⟩ = some c4 :=
  ⟨h 0 _ rfl, h 1 _ rfl, h 2 _ rfl, h 3 _ rfl, h 4 _ rfl⟩
theorem cells4 (w : World) (c0 c1 c2 c3 c4 : Value) (T : TypeId) : (w.alloc (.cells #[c0, c1, c2, c3, c4] T)).cell? ⟨w.heap.size, 3, none⟩ = some c3 ∧ (w.alloc (.cells #[c0, c1, c2, c3, c4] T)).cell? ⟨w.heap.size, 4, none⟩ = some c4 := by
  refine ⟨by simp [go_sem], by simp [go_sem]⟩
def PartsSaid (m : Nat) : Prop := ∀ (t : JV), t.size ≤ m → ∀ (cs : List Value) (w : World) (ok : Nat → Prop) (most : Int), Rep w ok t cs → t.bulk ≤ 1099511627776 → 0 ≤ most → most ≤ 1099511627776 →
    Calls Tryz.prog 17 #[.agg cs.toArray, .int .i64 most] w fun e w' => e = .returned (.int .i64 (parts t most)) ∧ Below w.heap.size w w'
set_option maxHeartbeats 2000000 in
theorem parts_step (m : Nat) (ih : PartsSaid m) : PartsSaid (m + 1) := by
  intro t hm cs w ok most hr hbk hm0 hm1
  cases t with
  | mk k n s ns is =>
  rw [rep_mk] at hr
  obtain ⟨_, _, _, an, cn, ai, ci, rfl, hcn, hci, _, hit⟩ := hr
  unfold maxLen at hcn hci
  have hns := strs_len ns
  have hisl := JV.len_le is
  rw [JV.bulk] at hbk
  have IH := Lib.hid ih
  clear ih
  have HP := Lib.hid (show parts (.mk k n s ns is) most = partsL is (1 + (ns.length : Int)) most by rw [parts])
  have hb0 : Below w.heap.size w (w.alloc (.cells #[.int .i64 k, .int .i64 n, .string s, .slice an ns.length cn, .slice ai is.length ci] 25)) := (Below.refl _ _).alloc (Nat.le_refl _) _
  obtain ⟨hc3, hc4⟩ := cells4 w (.int .i64 k) (.int .i64 n) (.string s) (.slice an ns.length cn) (.slice ai is.length ci) 25
  have hit1 := hit.below hb0
  go_enter Tryz.func17, Tryz.ntmps17
  go_wp2
  go_loopw [5, 6] (fun v i wr => ∃ j : Nat, j ≤ is.length ∧ i = .int .i64 j ∧ ∃ q : Int, v = .int .i64 q ∧ Hid (partsL is (1 + (ns.length : Int)) most = partsL (is.drop j) q most) ∧ 0 ≤ q ∧ q + JV.bulks (is.drop j) ≤ 1 + ns.length + JV.bulks is ∧ Below (w.alloc (.cells #[.int .i64 k, .int .i64 n, .string s, .slice an ns.length cn, .slice ai is.length ci] 25)).heap.size (w.alloc (.cells #[.int .i64 k, .int .i64 n, .string s, .slice an ns.length cn, .slice ai is.length ci] 25)) wr)
    (fun _ i _ => is.length - (intOf i).toNat)
  case atStart => exact ⟨0, by omega, rfl, _, rfl, rfl, by omega, by simp, Below.refl _ _⟩
  case round =>
    obtain ⟨j, hj, rfl, q, rfl, HQ, hq0, hq1, hbl⟩ := hrel
    have k4 := cell_below hbl hc4
    have hit2 := hit1.below hbl
    by_cases hlt : j < is.length
    · have hdrop : is.drop j = is[j] :: is.drop (j + 1) := List.drop_eq_getElem_cons hlt
      rw [hdrop] at HQ hq1
      rw [JV.bulks] at hq1
      rcases hit2 with rfl | ⟨b, off, rfl, _, hall⟩
      · simp at hlt
      obtain ⟨cs, hrj, hlj⟩ := hall.at j hlt
      have hlt' : j + 1 ≤ is.length := hlt
      have hszj : is[j].size ≤ m := by have h1 := JV.size_le (List.getElem_mem hlt); rw [JV.size] at hm; omega
      have hbj : is[j].bulk ≤ 1099511627776 := by have h1 := JV.bulk_le (List.getElem_mem hlt); omega
      by_cases hqm : q ≤ most
      · have hpb := parts_bd is[j] (most - q)
        have hcall := IH.out is[j] hszj cs wr ok (most - q) hrj hbj (by omega) (by omega)
        have HQ2 : Hid (partsL is (1 + (ns.length : Int)) most = partsL (is.drop (j + 1)) (q + parts is[j] (most - q)) most) := Lib.hid (by rw [HQ.out, partsL, if_pos hqm])
        generalize is[j] = x at *
        cases x with
        | mk k' n' s' ns' is' =>
        rw [rep_mk] at hrj
        obtain ⟨_, _, _, an', cn', ai', ci', rfl, _⟩ := hrj
        obtain ⟨l0, l1, l2, l3, l4⟩ := lie5 hlj
        generalize parts (.mk k' n' s' ns' is') (most - q) = pp at *
        have HD := Lib.hid hdrop
        clear HQ hdrop hall
        have HLT := Lib.hid hlt'
        go_wp2_with fail
        refine hcall.mono ?_; rintro e w1 ⟨rfl, hb1⟩
        clear hcall l0 l1 l2 l3 l4 hlj
        have hbl1 := hbl.trans (hb1.mono hbl.size)
        clear hb1 hbl k4
        go_wp2
        go_roundw
        case rel => exact ⟨j + 1, HLT.out, by go_num, _, rfl, HQ2, by omega, by omega, hbl1⟩
        case measure => have := HLT.out; simp [intOf]; omega
      · have HQ2 : Hid (partsL is (1 + (ns.length : Int)) most = q) := Lib.hid (by rw [HQ.out, partsL, if_neg hqm])
        have hd1 : decide (q ≤ most) = false := by simpa using hqm
        clear HQ hdrop hall hrj hlj hbj hszj
        go_wp2
        go_ret
        exact ⟨by rw [HP.out, HQ2.out]; rfl, below_trans hb0 hbl⟩
    · obtain rfl : j = is.length := by omega
      have HQ2 : Hid (partsL is (1 + (ns.length : Int)) most = q) := Lib.hid (by rw [HQ.out, List.drop_of_length_le (Nat.le_refl _), partsL])
      clear HQ
      go_wp2
      go_ret
      exact ⟨by rw [HP.out, HQ2.out]; rfl, below_trans hb0 hbl⟩
theorem parts_all (m : Nat) : PartsSaid m := by
  induction m with
  | zero => intro t hm; have := JV.size_pos t; omega
  | succ m ih => exact parts_step m ih
theorem parts_c (t : JV) (cs : List Value) (w : World) (ok : Nat → Prop) (most : Int) (hr : Rep w ok t cs) (hb : t.bulk ≤ 1099511627776) (h0 : 0 ≤ most) (h1 : most ≤ 1099511627776) :
    Calls Tryz.prog 17 #[.agg cs.toArray, .int .i64 most] w fun e w' => e = .returned (.int .i64 (parts t most)) ∧ Below w.heap.size w w' :=
  parts_all t.size t (Nat.le_refl _) cs w ok most hr hb h0 h1
end Go.Proofs.YtnmojmmgkipjcaaGreatDoor
