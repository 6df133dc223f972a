/- The walk of long. Conditions: what comes is of weight below 2 to the 30. -/
import Derived.Test.YtkpickojeghppaaDoorWact
namespace Go.Proofs.YtkpickojeghppaaDoor
open Go.RowKit
theorem actsSize_succ (l : List ActP) (k : Nat) (h : k < l.length) : actsSize (l.take (k + 1)) = actsSize (l.take k) + ((l[k]).raw.length + (l[k]).body.size + bodiesW (l[k]).ms) := by
  unfold actsSize
  rw [List.take_succ_eq_append_getElem h, List.map_append, List.sum_append]
  simp [ActP.size]
theorem actsSize_take (l : List ActP) (k : Nat) : actsSize (l.take k) ≤ actsW l := by
  have h1 : actsSize l = actsSize (l.take k) + actsSize (l.drop k) := by
    unfold actsSize
    rw [← List.sum_append, ← List.map_append, List.take_append_drop]
  have := (actsW_le l).1
  omega
theorem bodiesW_succ (l : List WMsg) (k : Nat) (h : k < l.length) : bodiesW (l.take (k + 1)) = bodiesW (l.take k) + (l[k]).body.size := by
  unfold bodiesW
  rw [List.take_succ_eq_append_getElem h, List.map_append, List.sum_append]
  simp
theorem bodiesW_take (l : List WMsg) (k : Nat) : bodiesW (l.take k) ≤ msgsW l := by
  have h1 : bodiesW l = bodiesW (l.take k) + bodiesW (l.drop k) := by
    unfold bodiesW
    rw [← List.sum_append, ← List.map_append, List.take_append_drop]
  have := (msgsW_le l).1
  omega
theorem long_eq (z n : Nat) : (decide (2000000 < (z : Int)) || decide (300 < (n : Int))) = (decide (2000000 < z) || decide (300 < n)) := by
  have h1 : (2000000 < (z : Int)) ↔ 2000000 < z := by omega
  have h2 : (300 < (n : Int)) ↔ 300 < n := by omega
  rw [decide_eq_decide.2 h1, decide_eq_decide.2 h2]
set_option maxRecDepth 20000 in
set_option maxHeartbeats 4000000 in
theorem long_c (A : Option Addr) (c : Nat) (l : List ActP) (hw : actsW l ≤ 1073741824) (w : World) (h : ActsIn w A l) :
    Calls Tryd.prog 20 #[.slice A l.length c] w fun e w' => e = .returned (.bool (longB l)) ∧ ∃ n, w' = w.drewN n := by
  have hll := (actsW_le l).2
  have HA := Lib.hid h
  clear h
  go_enter Tryd.func20, Tryd.ntmps20
  go_wp2
  go_loopw [3, 4, 5] (fun n i _ wr => ∃ (k m : Nat), k ≤ l.length ∧ i = .int .i64 k ∧ n = .int .i64 (actsSize (l.take k) : Int) ∧ wr = w.drewN m) (fun _ i _ _ => l.length - (intOf i).toNat)
  case atStart => exact ⟨0, 0, Nat.zero_le _, rfl, rfl, rfl⟩
  case round =>
    obtain ⟨k, m, hk, rfl, rfl, rfl⟩ := hrel
    have hz := actsSize_take l k
    by_cases hlt : k < l.length
    · obtain ⟨G, o, rfl, hr⟩ : ∃ G o, A = some ⟨G, o, none⟩ ∧ ∀ i (h : i < l.length), ∃ Ar cr Am cm, ActV w l[i] Ar cr Am cm ∧ w.rangeAt G (o + i * 4) (actV l[i] Ar cr Am cm) := by
        rcases HA.out with h | h
        · rw [h] at hlt; simp at hlt
        · exact h
      obtain ⟨Ar, cr, Am, cm, hv, hc⟩ := hr k hlt
      have HZ := Lib.hid (actsSize_succ l k hlt)
      have hwt := actsW_get hlt
      clear hr
      generalize l[k] = a at *
      obtain ⟨kind, raw, ms, body⟩ := a
      have a1 : w.cell? ⟨G, o + k * 4 + 1, none⟩ = some (.slice Ar raw.length cr) := hc 1 _ rfl
      have a2 : w.cell? ⟨G, o + k * 4 + 2, none⟩ = some (.slice Am ms.length cm) := hc 2 _ rfl
      have a3 : w.cell? ⟨G, o + k * 4 + 3, none⟩ = some (.string body) := hc 3 _ rfl
      unfold ActP.wt at hwt
      simp only at hwt HZ
      have hmw := msgsW_le ms
      have HMS := Lib.hid hv.msgs
      have hnb : (raw.length : Int) ≤ 9223372036854775807 := by omega
      clear hc hv
      generalize hsz : actsSize (l.take k) = z at *
      clear hsz
      have HZ := Lib.hid (show actsSize (l.take (k + 1)) = z + (raw.length + body.size + bodiesW ms) from HZ.out)
      go_wp2
      go_quiet (fail)
      clear a1 a3
      go_wp2
      go_loop [3, 5] (fun n i => ∃ j : Nat, j ≤ ms.length ∧ i = .int .i64 j ∧ n = .int .i64 ((z + raw.length + body.size + bodiesW (ms.take j) : Nat) : Int)) (fun _ i => ms.length - (intOf i).toNat)
      case atStart => exact ⟨0, Nat.zero_le _, rfl, congrArg (Value.int .i64) (by simp [bodiesW])⟩
      case round =>
        obtain ⟨j, hj, rfl, rfl⟩ := hrel
        have hbz := bodiesW_take ms j
        by_cases hjl : j < ms.length
        · obtain ⟨Gm, om, rfl, hrm⟩ : ∃ G o, Am = some ⟨G, o, none⟩ ∧ w.rangeAt G o (msgsV ms) := by
            rcases HMS.out with h0 | h
            · rw [h0] at hjl; simp at hjl
            · exact h
          obtain ⟨_, _, _, m3, _⟩ := MsgsIn.cells hrm j hjl
          have HB := Lib.hid (bodiesW_succ ms j hjl)
          have hmk := msgsW_get hjl
          clear hrm
          generalize (ms[j]).body = mb at *
          generalize bodiesW (ms.take j) = bz at *
          go_wp2
          go_round
          case rel => exact ⟨j + 1, by omega, by go_num, by rw [HB.out]; omega⟩
          case measure => simp [intOf]; omega
        · obtain rfl : j = ms.length := by omega
          have HB := Lib.hid (show bodiesW (ms.take ms.length) = bodiesW ms by rw [List.take_length])
          generalize bodiesW (ms.take ms.length) = bz at *
          go_wp2
          go_roundw
          case rel => exact ⟨k + 1, m + nq, by omega, by go_num, congrArg (fun x : Nat => Value.int .i64 (x : Int)) (by have h1 := HZ.out; have h2 := HB.out; omega), rfl⟩
          case measure => simp [intOf]; omega
    · obtain rfl : k = l.length := by omega
      have HE := Lib.hid (show actsSize (l.take l.length) = actsSize l by rw [List.take_length])
      have HL := Lib.hid (show longB l = (decide (2000000 < actsSize l) || decide (300 < l.length)) from rfl)
      generalize actsSize (l.take l.length) = z at *
      by_cases hzz : 2000000 < z
      · go_wp2
        go_ret
        rw [HL.out, ← HE.out, decide_eq_true hzz]
        exact ⟨rfl, m, rfl⟩
      · go_wp2
        go_ret
        rw [HL.out, ← HE.out]
        exact ⟨ret_bool (long_eq z l.length), m, rfl⟩
end Go.Proofs.YtkpickojeghppaaDoor
