/- Both ends whose bytes reach each other, in plain Lean: what a client's end makes of a stream of replies. Conditions: none. -/
import Derived.Test.YtkpickojeghppaaDoorMpa
import Derived.Test.YtkpickojeghppaaDoorRcn
namespace Go.Proofs.YtkpickojeghppaaDoor
def pairsL : Nat → List ByteArray → List (Nat × ByteArray)
  | _, [] => []
  | j, b :: r => (j, b ++ bang) :: pairsL (j + 1) r
/-- what is under way to the client -/
def dnM (sums : Bool) (N j : Nat) (Z : List ByteArray) (wb eb : Bool) : List WMsg := (if wb then [welcomeM sums] else []) ++ (repsM sums j Z ++ if eb then [byeA sums (N + 2)] else [])
/-- a client that has heard so much: g replies, K not told -/
structure CliS (sums ended : Bool) (N g : Nat) (K : List (Nat × ByteArray)) (cb ce : Bool) (c : Cl) : Prop where
  closed : c.closed = ce
  why : c.why = 0
  sums : c.sums = sums
  began : c.began = cb
  ending : c.ending = ended
  bye : ended = true → c.bye = N + 2
  id : c.id = N + 2 + (if ended then 1 else 0)
  asked : c.asked = List.range' (g + 2) (N - g)
  came : c.came = K
theorem ctook_zero {s t : Cl} {m : WMsg} (h : s.take m = (t, 0)) : s.took m = t := by
  unfold Cl.took Cl.failed
  rw [h]
  exact if_pos rfl
theorem run_zero (s : Cl) : s.run 0 = s := by unfold Cl.run; rw [Cl.feedE]; exact if_pos rfl
theorem cli_run (sums ended : Bool) (N : Nat) (hN : N ≤ 1000) (sb sc : Bool) : ∀ (n : Nat) (c : Cl) (Z : List ByteArray) (g : Nat) (K : List (Nat × ByteArray)) (cb ce : Bool) (rest : List UInt8), c.inp.length < n → c.inp.length ≤ 9223372036854770000 →
    CliS sums ended N g K cb ce c → (∀ b ∈ Z, b.size ≤ 100000) → g + Z.length ≤ N → (cb = true → sb = true) → (Z ≠ [] → sb = true) → (sc = true → sb = true ∧ ended = true ∧ g + Z.length = N) → (ce = true → sc = true ∧ cb = true ∧ Z = []) →
    c.inp ++ rest = flatM (dnM sums N (g + 2) Z (sb && !cb) (sc && !ce)) →
    ∃ Z1 Z2 cb' ce', Z = Z1 ++ Z2 ∧ CliS sums ended N (g + Z1.length) (K ++ pairsL (g + 2) Z1) cb' ce' (c.run n) ∧ (cb' = true → sb = true) ∧ (ce' = true → sc = true ∧ cb' = true ∧ Z2 = []) ∧
      (c.run n).inp ++ rest = flatM (dnM sums N (g + Z1.length + 2) Z2 (sb && !cb') (sc && !ce')) ∧ (c.run n).out = c.out ∧ (rest = [] → Z2 = [] ∧ cb' = sb ∧ ce' = sc) := by
  intro n
  induction n with
  | zero => intro c Z g K cb ce rest h; omega
  | succ n ih =>
    intro c Z g K cb ce rest hn hbig hC hZ hg hcb hzb hsc hce hst
    have stay : c.run (n + 1) = c → (rest = [] → Z = [] ∧ cb = sb ∧ ce = sc) → ∃ Z1 Z2 cb' ce', Z = Z1 ++ Z2 ∧ CliS sums ended N (g + Z1.length) (K ++ pairsL (g + 2) Z1) cb' ce' (c.run (n + 1)) ∧ (cb' = true → sb = true) ∧ (ce' = true → sc = true ∧ cb' = true ∧ Z2 = []) ∧
      (c.run (n + 1)).inp ++ rest = flatM (dnM sums N (g + Z1.length + 2) Z2 (sb && !cb') (sc && !ce')) ∧ (c.run (n + 1)).out = c.out ∧ (rest = [] → Z2 = [] ∧ cb' = sb ∧ ce' = sc) := by
      intro e hr
      rw [e]
      exact ⟨[], Z, cb, ce, rfl, by rw [show K ++ pairsL (g + 2) [] = K from List.append_nil K]; exact hC, hcb, hce, hst, rfl, hr⟩
    by_cases hstop : c.closed = true
    · have h1 : ce = true := by rw [← hC.closed]; exact hstop
      obtain ⟨a, b, d⟩ := hce h1
      exact stay (crun_closed (n + 1) c hstop) (fun _ => ⟨d, by rw [b, hcb b], by rw [h1, a]⟩)
    · have hcl : c.closed = false := by cases h : c.closed with | false => rfl | true => exact absurd h hstop
      have hcef : ce = false := by rw [← hC.closed]; exact hcl
      subst hcef
      have step : ∀ (m : WMsg) (r : List WMsg), Fit m → dnM sums N (g + 2) Z (sb && !cb) (sc && !false) = m :: r →
          (∀ x, c.inp = packL m ++ x → ∃ Z0 Z3 cb1 ce1 t, Z = Z0 ++ Z3 ∧ (c.cut (packL m).length).take m = (t, 0) ∧ t.inp = x ∧ t.out = c.out ∧ CliS sums ended N (g + Z0.length) (K ++ pairsL (g + 2) Z0) cb1 ce1 t ∧ Z0.length ≤ 1 ∧ (cb1 = true → sb = true) ∧ (ce1 = true → sc = true ∧ cb1 = true ∧ Z3 = []) ∧ r = dnM sums N (g + Z0.length + 2) Z3 (sb && !cb1) (sc && !ce1)) →
          ∃ Z1 Z2 cb' ce', Z = Z1 ++ Z2 ∧ CliS sums ended N (g + Z1.length) (K ++ pairsL (g + 2) Z1) cb' ce' (c.run (n + 1)) ∧ (cb' = true → sb = true) ∧ (ce' = true → sc = true ∧ cb' = true ∧ Z2 = []) ∧
            (c.run (n + 1)).inp ++ rest = flatM (dnM sums N (g + Z1.length + 2) Z2 (sb && !cb') (sc && !ce')) ∧ (c.run (n + 1)).out = c.out ∧ (rest = [] → Z2 = [] ∧ cb' = sb ∧ ce' = sc) := by
        intro m r hm hdn hnext
        rw [hdn, flatM_cons] at hst
        rcases front hm hbig hst with ⟨hlt, hu⟩ | ⟨x, hx, hxr, hu⟩
        · refine stay ((crun_bad n c 3 hcl hu).trans (if_pos rfl)) (fun hr => ?_)
          rw [hr, List.append_nil] at hst
          rw [hst, List.length_append] at hlt
          omega
        · obtain ⟨Z0, Z3, cb1, ce1, t, hz, htk, hti, hto, hS1, h01, hcb1, hce1, hr1⟩ := hnext x hx
          have hlp := crun_ok n c m _ hcl hu
          rw [ctook_zero htk] at hlp
          have hpos := hm.pos
          have hil : c.inp.length = (packL m).length + x.length := by rw [hx, List.length_append]
          have hzl : Z.length = Z0.length + Z3.length := by rw [hz, List.length_append]
          obtain ⟨Z1, Z2, cb2, ce2, a1, a2, a3, a4, a5, a6, a7⟩ := ih t Z3 (g + Z0.length) (K ++ pairsL (g + 2) Z0) cb1 ce1 rest (by rw [hti]; omega) (by rw [hti]; omega) hS1
            (fun b hb => hZ b (by rw [hz]; exact List.mem_append_right _ hb)) (by omega) hcb1 (fun h => hzb (by rw [hz]; intro e; exact h (List.append_eq_nil_iff.1 e).2)) (fun h => ⟨(hsc h).1, (hsc h).2.1, by have := (hsc h).2.2; omega⟩) hce1 (by rw [hti, hxr, hr1])
          have hpl : pairsL (g + 2) (Z0 ++ Z1) = pairsL (g + 2) Z0 ++ pairsL (g + Z0.length + 2) Z1 := by
            match Z0, h01 with
            | [], _ => rfl
            | [b], _ => show (g + 2, b ++ bang) :: pairsL (g + 2 + 1) Z1 = (g + 2, b ++ bang) :: ([] ++ pairsL (g + 1 + 2) Z1); rw [List.nil_append, show g + 2 + 1 = g + 1 + 2 by omega]
          rw [hlp]
          refine ⟨Z0 ++ Z1, Z2, cb2, ce2, by rw [hz, a1, List.append_assoc], ?_, a3, a4, ?_, a6.trans hto, a7⟩
          · rw [hpl, List.length_append, ← Nat.add_assoc, ← List.append_assoc]
            exact a2
          · rw [List.length_append, ← Nat.add_assoc]
            exact a5
      by_cases hwb : (sb && !cb) = true
      · have hcbf : cb = false := by cases cb with | false => rfl | true => simp at hwb
        have hsbt : sb = true := by cases sb with | true => rfl | false => simp at hwb
        subst hcbf
        subst hsbt
        refine step (welcomeM sums) _ (fit_welcome sums) rfl (fun x hx => ?_)
        refine ⟨[], Z, true, false, { c.cut (packL (welcomeM sums)).length with began := true }, rfl, ?_, ?_, rfl, ?_, Nat.zero_le _, (fun _ => rfl), (fun h => by cases h), rfl⟩
        · unfold Cl.take
          rw [if_pos (show (c.cut (packL (welcomeM sums)).length).began = false from hC.began), if_neg (by simp [welcomeM])]
        · show c.inp.drop _ = x
          rw [hx, List.drop_left]
        · rw [show K ++ pairsL (g + 2) [] = K from List.append_nil K]
          exact ⟨hcl, hC.why, hC.sums, rfl, hC.ending, hC.bye, hC.id, hC.asked, hC.came⟩
      · have hwbf : (sb && !cb) = false := by simpa using hwb
        have hbg : sb = true → cb = true := fun h => by rw [h] at hwbf; simpa using hwbf
        cases Z with
        | cons b Z3 =>
          have hsbt := hzb (by simp)
          have hcbt := hbg hsbt
          rw [List.length_cons] at hg
          have hnb : ¬ c.began = false := by rw [hC.began, hcbt]; decide
          refine step (replyM sums (g + 2) b) (dnM sums N (g + 1 + 2) Z3 false (sc && !false)) (fit_reply sums _ b (by omega) (hZ b (.head _))) (by rw [hwbf]; rfl) (fun x hx => ?_)
          have hask : c.asked = (g + 2) :: List.range' (g + 1 + 2) (N - (g + 1)) := by
            rw [hC.asked, show N - g = (N - (g + 1)) + 1 by omega, List.range'_succ]
          refine ⟨[b], Z3, true, false, { c.cut (packL (replyM sums (g + 2) b)).length with came := c.came ++ [(g + 2, b ++ bang)], asked := List.range' (g + 1 + 2) (N - (g + 1)) }, rfl, ?_, ?_, rfl, ?_, Nat.le_refl _, (fun _ => hsbt), (fun h => by cases h), ?_⟩
          · unfold Cl.take
            rw [if_neg (show ¬ (c.cut (packL (replyM sums (g + 2) b)).length).began = false from hnb), if_pos (show (replyM sums (g + 2) b).kind = 4 from rfl), show (c.cut (packL (replyM sums (g + 2) b)).length).asked = c.asked from rfl, hask]
            exact if_pos rfl
          · show c.inp.drop _ = x
            rw [hx, List.drop_left]
          · refine ⟨hcl, hC.why, hC.sums, hC.began.trans hcbt, hC.ending, hC.bye, hC.id, rfl, ?_⟩
            show c.came ++ _ = _
            rw [hC.came]
            rfl
          · rw [hsbt]
            rfl
        | nil =>
          cases hsct : sc with
          | true =>
            subst hsct
            obtain ⟨hsbt, het, hgn⟩ := hsc rfl
            have hcbt := hbg hsbt
            rw [List.length_nil] at hgn
            have hnb : ¬ c.began = false := by rw [hC.began, hcbt]; decide
            refine step (byeA sums (N + 2)) [] (fit_byeA sums _ (by omega)) (by rw [hwbf]; rfl) (fun x hx => ?_)
            refine ⟨[], [], true, true, { c.cut (packL (byeA sums (N + 2))).length with closed := true }, rfl, ?_, ?_, rfl, ?_, Nat.zero_le _, (fun _ => hsbt), (fun _ => ⟨rfl, rfl, rfl⟩), by rw [hsbt]; rfl⟩
            · unfold Cl.take
              rw [if_neg (show ¬ (c.cut (packL (byeA sums (N + 2))).length).began = false from hnb), if_neg (by simp [byeA]), if_pos (show (byeA sums (N + 2)).kind = 5 from rfl)]
              refine if_pos ⟨hC.ending.trans het, (hC.bye het).symm, ?_⟩
              show c.asked = []
              rw [hC.asked, show N - g = 0 by omega]
              rfl
            · show c.inp.drop _ = x
              rw [hx, List.drop_left]
            · rw [show K ++ pairsL (g + 2) [] = K from List.append_nil K]
              exact ⟨rfl, hC.why, hC.sums, hC.began.trans hcbt, hC.ending, hC.bye, hC.id, hC.asked, hC.came⟩
          | false =>
            subst hsct
            rw [hwbf] at hst
            have h0 : c.inp ++ rest = [] := hst
            obtain ⟨hi, hr⟩ := List.append_eq_nil_iff.1 h0
            refine stay ((crun_bad n c 3 hcl (by rw [hi]; exact unpack_nil)).trans (if_pos rfl)) (fun _ => ⟨rfl, ?_, rfl⟩)
            cases hs : sb with
            | true => exact hbg hs
            | false =>
              cases hc2 : cb with
              | false => rfl
              | true => rw [hcb hc2] at hs; cases hs
end Go.Proofs.YtkpickojeghppaaDoor
