/- Both ends whose bytes reach each other, in plain Lean: moves, and what they keep. Conditions: none. -/
import Derived.Test.YtkpickojeghppaaDoorMpb
import Derived.Test.YtkpickojeghppaaDoorWpc
namespace Go.Proofs.YtkpickojeghppaaDoor
structure MS where
  c : Cl
  s : Sv
  up : List UInt8
  down : List UInt8
  asked : List ByteArray
  heard : Nat
  got : Nat
  ended : Bool
/-- of so many bytes at most n -/
def someN (len : Nat) (n : Int) : Nat := if n < 0 ∨ (len : Int) < n then len else n.toNat
theorem someN_le (len : Nat) (n : Int) : someN len n ≤ len := by unfold someN; split <;> omega
def MS.ask (t : MS) (body : ByteArray) : MS := if (t.c.ask body).2.2 = 0 then { t with c := (t.c.ask body).1, asked := t.asked ++ [body] } else { t with c := (t.c.ask body).1 }
def MS.bye (t : MS) : MS := { t with c := t.c.part.1, ended := true }
def MS.toS (t : MS) (n : Int) : MS :=
  { t with c := { t.c with out := [] }, s := t.s.feed ((t.up ++ t.c.out).take (someN (t.up ++ t.c.out).length n)), up := (t.up ++ t.c.out).drop (someN (t.up ++ t.c.out).length n) }
def MS.fed (t : MS) (n : Int) : Cl := t.c.feed ((t.down ++ t.s.out).take (someN (t.down ++ t.s.out).length n))
def MS.toC (t : MS) (n : Int) : MS :=
  { t with s := { t.s with out := [] }, c := { t.fed n with came := [] }, down := (t.down ++ t.s.out).drop (someN (t.down ++ t.s.out).length n), got := t.got + (t.fed n).came.length }
def MS.answer (t : MS) : MS := match t.s.held with
  | [] => t
  | (_, b, _) :: _ => { t with s := (t.s.next.answer (b ++ bang)).1, heard := t.heard + 1 }
structure MInv (sums : Bool) (t : MS) (Y Z H Q : List ByteArray) (sb cb se ce : Bool) : Prop where
  asked : t.asked = Y ++ (Z ++ (H ++ Q))
  got : t.got = Y.length
  heard : t.heard = Y.length + Z.length
  h16 : Z.length + H.length + Q.length ≤ 16
  big : ∀ b ∈ t.asked, b.size ≤ 100000
  n : t.asked.length ≤ 1000
  srv : SrvS sums t.asked.length (Y.length + Z.length) H sb se t.s
  cli : CliS sums t.ended t.asked.length Y.length [] cb ce t.c
  seq : se = true → Q = [] ∧ t.ended = true
  sbf : sb = false → se = false
  nosb : sb = false → Z = [] ∧ H = []
  cbs : cb = true → sb = true
  ces : ce = true → t.s.closed = true ∧ cb = true ∧ Z = []
  upEq : t.s.inp ++ (t.up ++ t.c.out) = flatM (upM sums t.asked.length (Y.length + Z.length + H.length + 2) Q sb (t.ended && !se))
  dnEq : t.c.inp ++ (t.down ++ t.s.out) = flatM (dnM sums t.asked.length (Y.length + 2) Z (sb && !cb) (t.s.closed && !ce))
section
variable {sums : Bool} {t : MS} {Y Z H Q : List ByteArray} {sb cb se ce : Bool}
theorem MInv.len (h : MInv sums t Y Z H Q sb cb se ce) : t.asked.length = Y.length + Z.length + H.length + Q.length := by rw [h.asked]; simp; omega
/-- a server that is closed has answered all -/
theorem MInv.shut (h : MInv sums t Y Z H Q sb cb se ce) (hc : t.s.closed = true) : se = true ∧ H = [] ∧ sb = true ∧ t.ended = true ∧ Q = [] := by
  rw [h.srv.closed] at hc
  have h1 : se = true := by cases se with | true => rfl | false => simp at hc
  have h2 : H = [] := by
    rw [h1] at hc
    simpa using hc
  refine ⟨h1, h2, ?_, (h.seq h1).2, (h.seq h1).1⟩
  cases hs : sb with
  | true => rfl
  | false => rw [h.sbf hs] at h1; cases h1
/-- an ask -/
theorem MInv.ask (h : MInv sums t Y Z H Q sb cb se ce) (body : ByteArray) (hb : body.size ≤ 100000) (hn : t.asked.length + 1 ≤ 1000) : ∃ Q', MInv sums (t.ask body) Y Z H Q' sb cb se ce := by
  have hlen := h.len
  unfold MS.ask
  by_cases hst : (t.c.closed || t.c.ending) = true
  · have e : t.c.ask body = (t.c, 0, 285) := by unfold Cl.ask; rw [if_pos hst]
    rw [e, if_neg (by show ¬ (285 : Nat) = 0; decide)]
    exact ⟨Q, h⟩
  · have hcl : t.c.closed = false := by cases x : t.c.closed with | false => rfl | true => rw [x] at hst; exact absurd rfl hst
    have hen : t.c.ending = false := by cases x : t.c.ending with | false => rfl | true => rw [x, Bool.or_true] at hst; exact absurd rfl hst
    have hend : t.ended = false := by rw [← h.cli.ending]; exact hen
    have hsef : se = false := by
      cases x : se with
      | false => rfl
      | true => rw [(h.seq x).2] at hend; cases hend
    have hscf : t.s.closed = false := by rw [h.srv.closed, hsef]; rfl
    by_cases hq : 16 ≤ t.c.asked.length
    · have e : t.c.ask body = (t.c, 0, 5) := by unfold Cl.ask; rw [if_neg hst, if_pos hq]
      rw [e, if_neg (by show ¬ (5 : Nat) = 0; decide)]
      exact ⟨Q, h⟩
    · have hlg : t.c.long body = false := by
        unfold Cl.long
        have : 24 + body.size + (if t.c.sums = true then 4 else 0) ≤ 131072 := by split <;> omega
        rw [decide_eq_true this]
        rfl
      have hpk := ask_pack t.c body
      rw [hlg] at hpk
      have e : t.c.ask body = (({ t.c with id := t.c.id + 1, asked := t.c.asked ++ [t.c.id] } : Cl).send (t.c.askM body), t.c.id, 0) := by
        unfold Cl.ask
        rw [if_neg hst, if_neg hq, if_neg (by rw [hlg]; decide), hpk]
        rfl
      rw [e, if_pos rfl]
      have hal : t.c.asked.length = Z.length + H.length + Q.length := by rw [h.cli.asked, List.length_range']; omega
      have hid : t.c.id = t.asked.length + 2 := by rw [h.cli.id, hend]; rfl
      have hn1 : (t.asked ++ [body]).length = t.asked.length + 1 := by simp
      refine ⟨Q ++ [body], ⟨?_, h.got, h.heard, ?_, ?_, ?_, ?_, ?_, ?_, h.sbf, h.nosb, h.cbs, h.ces, ?_, ?_⟩⟩
      · show t.asked ++ [body] = _
        rw [h.asked]
        simp
      · rw [List.length_append, List.length_singleton]; omega
      · intro b hb2
        rcases List.mem_append.1 hb2 with x | x
        · exact h.big b x
        · rw [List.mem_singleton.1 x]; exact hb
      · show (t.asked ++ [body]).length ≤ 1000; omega
      · show SrvS sums (t.asked ++ [body]).length _ H sb se t.s
        rw [hn1]
        exact ⟨h.srv.closed, h.srv.why, h.srv.sums, h.srv.began, h.srv.ending, (fun x => by rw [hsef] at x; cases x), by have := h.srv.byeN; omega, h.srv.held, h.srv.last⟩
      · show CliS sums t.ended (t.asked ++ [body]).length _ [] cb ce _
        rw [hn1]
        refine ⟨h.cli.closed, h.cli.why, h.cli.sums, h.cli.began, h.cli.ending, (fun x => by rw [hend] at x; cases x), ?_, ?_, h.cli.came⟩
        · show t.c.id + 1 = _
          rw [hid, hend]
          rfl
        · show t.c.asked ++ [t.c.id] = _
          rw [h.cli.asked, hid, show t.asked.length + 1 - Y.length = (t.asked.length - Y.length) + 1 by omega, List.range'_concat]
          congr 2
          omega
      · intro x
        rw [hsef] at x; cases x
      · show t.s.inp ++ (t.up ++ (t.c.out ++ packL ((t.c.askM body).summed t.c.sums))) = flatM (upM sums (t.asked ++ [body]).length _ (Q ++ [body]) sb (t.ended && !se))
        rw [← List.append_assoc t.up, ← List.append_assoc t.s.inp, h.upEq, hend, h.cli.sums]
        show flatM ((if sb then [] else [helloM sums]) ++ (asksM sums (Y.length + Z.length + H.length + 2) Q ++ [])) ++ packL ⟨t.c.id, 0, 3, body, sums⟩ = flatM ((if sb then [] else [helloM sums]) ++ (asksM sums (Y.length + Z.length + H.length + 2) (Q ++ [body]) ++ []))
        rw [asksM_snoc, List.append_nil, List.append_nil, ← List.append_assoc, flatM_app (_ ++ _)]
        congr 1
        rw [hid, show Y.length + Z.length + H.length + 2 + Q.length = t.asked.length + 2 by omega]
        simp [flatM, askMs]
      · show t.c.inp ++ (t.down ++ t.s.out) = flatM (dnM sums (t.asked ++ [body]).length _ Z (sb && !cb) (t.s.closed && !ce))
        rw [h.dnEq, hscf]
        rfl
/-- a bye -/
theorem MInv.bye (h : MInv sums t Y Z H Q sb cb se ce) : MInv sums t.bye Y Z H Q sb cb se ce := by
  have hlen := h.len
  unfold MS.bye
  cases hend : t.ended with
  | true =>
    have e : t.c.part = (t.c, 285) := by unfold Cl.part; rw [if_pos (by rw [h.cli.ending, hend]; simp)]
    rw [e]
    have : ({ t with c := t.c, ended := true } : MS) = t := by rw [← hend]
    rw [this]
    exact h
  | false =>
    have hsef : se = false := by
      cases x : se with
      | false => rfl
      | true => rw [(h.seq x).2] at hend; cases hend
    have hscf : t.s.closed = false := by rw [h.srv.closed, hsef]; rfl
    have hcl : t.c.closed = false := by
      rw [h.cli.closed]
      cases x : ce with
      | false => rfl
      | true => rw [(h.ces x).1] at hscf; cases hscf
    have e : t.c.part.1 = ({ t.c with bye := t.c.id, ending := true, id := t.c.id + 1 } : Cl).send t.c.byeM := by
      unfold Cl.part
      rw [if_neg (by rw [hcl, h.cli.ending, hend]; decide)]
    have hid : t.c.id = t.asked.length + 2 := by rw [h.cli.id, hend]; rfl
    rw [e]
    refine ⟨h.asked, h.got, h.heard, h.h16, h.big, h.n, h.srv, ?_, (fun x => by rw [hsef] at x; cases x), h.sbf, h.nosb, h.cbs, h.ces, ?_, h.dnEq⟩
    · refine ⟨h.cli.closed, h.cli.why, h.cli.sums, h.cli.began, rfl, fun _ => hid, ?_, h.cli.asked, h.cli.came⟩
      show t.c.id + 1 = _
      rw [hid]
      rfl
    · show t.s.inp ++ (t.up ++ (t.c.out ++ packL (t.c.byeM.summed t.c.sums))) = flatM (upM sums t.asked.length _ Q sb (true && !se))
      rw [← List.append_assoc t.up, ← List.append_assoc t.s.inp, h.upEq, hend, h.cli.sums, hsef]
      show flatM ((if sb then [] else [helloM sums]) ++ (asksM sums (Y.length + Z.length + H.length + 2) Q ++ [])) ++ packL ⟨t.c.id, 0, 5, ⟨#[]⟩, sums⟩ = flatM ((if sb then [] else [helloM sums]) ++ (asksM sums (Y.length + Z.length + H.length + 2) Q ++ [byeMs sums (t.asked.length + 2)]))
      rw [List.append_nil, ← List.append_assoc, flatM_app (_ ++ _), hid]
      congr 1
      simp [flatM, byeMs]
/-- bytes reach the server -/
theorem MInv.toS (h : MInv sums t Y Z H Q sb cb se ce) (n : Int) (hbig : (t.s.inp ++ (t.up ++ t.c.out)).length ≤ 9223372036854770000) :
    ∃ H' Q' sb' se', MInv sums (t.toS n) Y Z H' Q' sb' cb se' ce ∧ (n < 0 → sb' = true ∧ Q' = [] ∧ se' = t.ended) := by
  have hlen := h.len
  obtain ⟨u, hu⟩ : ∃ u, t.up ++ t.c.out = u := ⟨_, rfl⟩
  obtain ⟨k, hk⟩ : ∃ k, someN u.length n = k := ⟨_, rfl⟩
  have hkl : k ≤ u.length := by rw [← hk]; exact someN_le _ _
  have hkn : n < 0 → u.drop k = [] := fun hn => by
    have : k = u.length := by rw [← hk]; unfold someN; rw [if_pos (.inl hn)]
    rw [this]; simp
  unfold MS.toS
  rw [hu, hk]
  have hup := h.upEq
  rw [hu] at hup hbig
  have hul : u.length ≤ (t.s.inp ++ u).length := by simp
  -- what the server makes of it
  have key : ∃ H' Q' sb' se', SrvS sums t.asked.length (Y.length + Z.length) H' sb' se' (t.s.feed (u.take k)) ∧ H ++ Q = H' ++ Q' ∧ (se' = true → Q' = [] ∧ t.ended = true) ∧ (sb' = false → se' = false) ∧
      (t.s.feed (u.take k)).inp ++ u.drop k = flatM (upM sums t.asked.length (Y.length + Z.length + H'.length + 2) Q' sb' (t.ended && !se')) ∧
      (t.s.feed (u.take k)).out = t.s.out ++ flatM ((if sb' && !sb then [welcomeM sums] else []) ++ (if (t.s.feed (u.take k)).closed && !t.s.closed then [byeA sums (t.asked.length + 2)] else [])) ∧
      (u.drop k = [] → sb' = true ∧ Q' = [] ∧ se' = t.ended) ∧ (sb = true → sb' = true) ∧ (t.s.closed = true → (t.s.feed (u.take k)).closed = true) ∧ (sb' = false → H' = H) := by
    by_cases hst : (t.s.closed || t.s.ending) = true
    · have hset : se = true := by
        rw [h.srv.closed, h.srv.ending] at hst
        cases se with
        | true => rfl
        | false => simp at hst
      have hsbt : sb = true := by
        cases hs : sb with
        | true => rfl
        | false => rw [h.sbf hs] at hset; cases hset
      obtain ⟨hqe, het⟩ := h.seq hset
      have e : t.s.feed (u.take k) = t.s := by unfold Sv.feed; rw [if_pos hst]
      rw [e]
      have h0 : t.s.inp ++ u = [] := by rw [hup, hsbt, hset, hqe, het]; rfl
      obtain ⟨hi, hu0⟩ := List.append_eq_nil_iff.1 h0
      refine ⟨H, Q, sb, se, h.srv, rfl, h.seq, h.sbf, ?_, ?_, fun _ => ⟨hsbt, hqe, by rw [hset, het]⟩, fun x => x, fun x => x, fun _ => rfl⟩
      · rw [hi, hu0, hsbt, hset, hqe, het]; simp; rfl
      · have e1 : (sb && !sb) = false := by cases sb <;> rfl
        have e2 : (t.s.closed && !t.s.closed) = false := by cases t.s.closed <;> rfl
        rw [e1, e2]
        simp [flatM]
    · have e : t.s.feed (u.take k) = Sv.loop ((t.s.inp ++ u.take k).length + 1) { t.s with inp := t.s.inp ++ u.take k } := by unfold Sv.feed; rw [if_neg hst]
      rw [e]
      have hS0 : SrvS sums t.asked.length (Y.length + Z.length) H sb se { t.s with inp := t.s.inp ++ u.take k } := ⟨h.srv.closed, h.srv.why, h.srv.sums, h.srv.began, h.srv.ending, h.srv.bye, h.srv.byeN, h.srv.held, h.srv.last⟩
      have hil : (t.s.inp ++ u.take k).length ≤ (t.s.inp ++ u).length := by rw [List.length_append, List.length_append, List.length_take]; omega
      exact srv_loop sums t.asked.length (Y.length + Z.length) t.ended h.n _ { t.s with inp := t.s.inp ++ u.take k } H Q sb se (u.drop k) (Nat.lt_succ_self _) (by show (t.s.inp ++ u.take k).length ≤ _; omega) hS0 (by omega) (by have := h.h16; omega)
        (fun b hb => h.big b (by rw [h.asked]; exact List.mem_append_right _ (List.mem_append_right _ hb))) h.seq h.sbf (by show (t.s.inp ++ u.take k) ++ u.drop k = _; rw [List.append_assoc, List.take_append_drop]; exact hup)
  obtain ⟨H', Q', sb', se', a1, a2, a3, a4, a5, a6, a7, a8, a9, a10⟩ := key
  have hcnt : H.length + Q.length = H'.length + Q'.length := by have := congrArg List.length a2; simpa using this
  refine ⟨H', Q', sb', se', ⟨by show t.asked = _; rw [← a2]; exact h.asked, h.got, h.heard, by have := h.h16; omega, h.big, h.n, a1, ?_, a3, a4, ?_, fun x => a8 (h.cbs x), fun x => ⟨a9 (h.ces x).1, (h.ces x).2⟩, ?_, ?_⟩, fun hn => a7 (hkn hn)⟩
  · exact ⟨h.cli.closed, h.cli.why, h.cli.sums, h.cli.began, h.cli.ending, h.cli.bye, h.cli.id, h.cli.asked, h.cli.came⟩
  · intro x
    have hsb : sb = false := by cases hs : sb with | false => rfl | true => rw [a8 hs] at x; cases x
    obtain ⟨z1, z2⟩ := h.nosb hsb
    exact ⟨z1, by rw [a10 x, z2]⟩
  · show (t.s.feed (u.take k)).inp ++ (u.drop k ++ []) = _
    rw [List.append_nil]
    exact a5
  · show t.c.inp ++ (t.down ++ (t.s.feed (u.take k)).out) = _
    rw [a6, ← List.append_assoc t.down, ← List.append_assoc t.c.inp, h.dnEq, ← flatM_app]
    congr 1
    cases hsb : sb with
    | true =>
      rw [a8 hsb]
      cases hsc : t.s.closed with
      | true => rw [a9 hsc]; simp [dnM]
      | false =>
        have hce : ce = false := by
          cases x : ce with
          | false => rfl
          | true => rw [(h.ces x).1] at hsc; cases hsc
        rw [hce]
        simp [dnM]
    | false =>
      have hsc : t.s.closed = false := by rw [h.srv.closed, h.sbf hsb]; rfl
      have hcb : cb = false := by
        cases x : cb with
        | false => rfl
        | true => rw [h.cbs x] at hsb; cases hsb
      have hce : ce = false := by
        cases x : ce with
        | false => rfl
        | true => rw [(h.ces x).1] at hsc; cases hsc
      rw [hsc, hcb, hce, (h.nosb hsb).1]
      simp [dnM, repsM]
theorem pairsL_len : ∀ (l : List ByteArray) (j : Nat), (pairsL j l).length = l.length
  | [], _ => rfl
  | b :: r, j => by simp [pairsL, pairsL_len r (j + 1)]
/-- bytes reach the client; what it is told, it is told in order -/
theorem MInv.toC (h : MInv sums t Y Z H Q sb cb se ce) (n : Int) (hbig : (t.c.inp ++ (t.down ++ t.s.out)).length ≤ 9223372036854770000) :
    ∃ Z1 Z2 cb' ce', Z = Z1 ++ Z2 ∧ (t.fed n).came = pairsL (Y.length + 2) Z1 ∧ MInv sums (t.toC n) (Y ++ Z1) Z2 H Q sb cb' se ce' ∧ (n < 0 → Z2 = [] ∧ cb' = sb ∧ ce' = t.s.closed) := by
  have hlen := h.len
  obtain ⟨u, hu⟩ : ∃ u, t.down ++ t.s.out = u := ⟨_, rfl⟩
  obtain ⟨k, hk⟩ : ∃ k, someN u.length n = k := ⟨_, rfl⟩
  have hkl : k ≤ u.length := by rw [← hk]; exact someN_le _ _
  have hkn : n < 0 → u.drop k = [] := fun hn => by
    have : k = u.length := by rw [← hk]; unfold someN; rw [if_pos (.inl hn)]
    rw [this]; simp
  unfold MS.toC MS.fed
  rw [hu, hk]
  have hdn := h.dnEq
  rw [hu] at hdn hbig
  have hul : u.length ≤ (t.c.inp ++ u).length := by simp
  have key : ∃ Z1 Z2 cb' ce', Z = Z1 ++ Z2 ∧ CliS sums t.ended t.asked.length (Y.length + Z1.length) (pairsL (Y.length + 2) Z1) cb' ce' (t.c.feed (u.take k)) ∧ (cb' = true → sb = true) ∧ (ce' = true → t.s.closed = true ∧ cb' = true ∧ Z2 = []) ∧
      (t.c.feed (u.take k)).inp ++ u.drop k = flatM (dnM sums t.asked.length (Y.length + Z1.length + 2) Z2 (sb && !cb') (t.s.closed && !ce')) ∧ (t.c.feed (u.take k)).out = t.c.out ∧ (u.drop k = [] → Z2 = [] ∧ cb' = sb ∧ ce' = t.s.closed) := by
    by_cases hst : t.c.closed = true
    · have hcet : ce = true := by rw [← h.cli.closed]; exact hst
      obtain ⟨hsc, hcbt, hz⟩ := h.ces hcet
      have e : t.c.feed (u.take k) = t.c := by unfold Cl.feed; rw [if_pos hst]
      rw [e]
      have h0 : t.c.inp ++ u = [] := by rw [hdn, hcbt, hcet, hz]; cases sb <;> simp [dnM, repsM, flatM]
      obtain ⟨hi, hu0⟩ := List.append_eq_nil_iff.1 h0
      refine ⟨[], Z, cb, ce, rfl, h.cli, h.cbs, h.ces, ?_, rfl, fun _ => ⟨hz, by rw [hcbt, h.cbs hcbt], by rw [hcet, hsc]⟩⟩
      rw [hi, hu0, hcbt, hcet, hz]
      cases sb <;> simp [dnM, repsM, flatM]
    · have hcl : t.c.closed = false := by cases x : t.c.closed with | false => rfl | true => exact absurd x hst
      rw [rfeed_run t.c _ hcl]
      have hC0 : CliS sums t.ended t.asked.length Y.length [] cb ce { t.c with inp := t.c.inp ++ u.take k } := ⟨h.cli.closed, h.cli.why, h.cli.sums, h.cli.began, h.cli.ending, h.cli.bye, h.cli.id, h.cli.asked, h.cli.came⟩
      have hil : (t.c.inp ++ u.take k).length ≤ (t.c.inp ++ u).length := by rw [List.length_append, List.length_append, List.length_take]; omega
      have hr := cli_run sums t.ended t.asked.length h.n sb t.s.closed ((t.c.inp ++ u.take k).length + 1) { t.c with inp := t.c.inp ++ u.take k } Z Y.length [] cb ce (u.drop k) (Nat.lt_succ_self _) (by show (t.c.inp ++ u.take k).length ≤ _; omega) hC0
        (fun b hb => h.big b (by rw [h.asked]; exact List.mem_append_right _ (List.mem_append_left _ hb))) (by omega) h.cbs
        (fun hz => by
          cases hs : sb with
          | true => rfl
          | false => exact absurd (h.nosb hs).1 hz)
        (fun hs => by
          obtain ⟨x1, x2, x3, x4, x5⟩ := h.shut hs
          refine ⟨x3, x4, ?_⟩
          rw [x2, x5] at hlen
          simp at hlen
          omega) h.ces (by show (t.c.inp ++ u.take k) ++ u.drop k = _; rw [List.append_assoc, List.take_append_drop]; exact hdn)
      obtain ⟨Z1, Z2, cb', ce', a1, a2, a3, a4, a5, a6, a7⟩ := hr
      exact ⟨Z1, Z2, cb', ce', a1, by rw [List.nil_append] at a2; exact a2, a3, a4, a5, a6, a7⟩
  obtain ⟨Z1, Z2, cb', ce', a1, a2, a3, a4, a5, a6, a7⟩ := key
  have hzl : Z.length = Z1.length + Z2.length := by rw [a1, List.length_append]
  refine ⟨Z1, Z2, cb', ce', a1, a2.came, ⟨?_, ?_, ?_, ?_, h.big, h.n, ?_, ?_, h.seq, h.sbf, ?_, a3, a4, ?_, ?_⟩, fun hn => a7 (hkn hn)⟩
  · show t.asked = _
    rw [h.asked, a1]
    simp
  · show t.got + (t.c.feed (u.take k)).came.length = _
    rw [a2.came, pairsL_len, h.got, List.length_append]
  · show t.heard = _
    rw [h.heard, List.length_append]
    omega
  · have := h.h16; omega
  · rw [List.length_append, show Y.length + Z1.length + Z2.length = Y.length + Z.length by omega]
    exact ⟨h.srv.closed, h.srv.why, h.srv.sums, h.srv.began, h.srv.ending, h.srv.bye, h.srv.byeN, h.srv.held, h.srv.last⟩
  · rw [List.length_append]
    exact ⟨a2.closed, a2.why, a2.sums, a2.began, a2.ending, a2.bye, a2.id, a2.asked, rfl⟩
  · intro x
    obtain ⟨z1, z2⟩ := h.nosb x
    refine ⟨?_, z2⟩
    rw [a1] at z1
    exact (List.append_eq_nil_iff.1 z1).2
  · rw [List.length_append]
    show t.s.inp ++ (t.up ++ (t.c.feed (u.take k)).out) = _
    rw [a6, h.upEq, show Y.length + Z1.length + Z2.length = Y.length + Z.length by omega]
  · rw [List.length_append]
    show (t.c.feed (u.take k)).inp ++ (u.drop k ++ []) = _
    rw [List.append_nil]
    exact a5
end
end Go.Proofs.YtkpickojeghppaaDoor
