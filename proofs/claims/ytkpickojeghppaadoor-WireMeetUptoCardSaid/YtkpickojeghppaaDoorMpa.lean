/- Both ends whose bytes reach each other, in plain Lean: what a server's end makes of a stream of asks. Conditions: none. -/
import Derived.Test.YtkpickojeghppaaDoorRsfd
import Derived.Test.YtkpickojeghppaaDoorCutp
namespace Go.Proofs.YtkpickojeghppaaDoor
def flatM (l : List WMsg) : List UInt8 := l.flatMap packL
theorem flatM_cons (m : WMsg) (l : List WMsg) : flatM (m :: l) = packL m ++ flatM l := rfl
theorem flatM_app (a b : List WMsg) : flatM (a ++ b) = flatM a ++ flatM b := List.flatMap_append
/-- a message that goes over -/
structure Fit (m : WMsg) : Prop where
  id : m.id < 4294967296
  to : m.to < 4294967296
  e : packE m = 0
theorem Fit.pos {m : WMsg} (h : Fit m) : 24 ≤ (packL m).length := by
  rw [packL_zero h.e, packed_len]
  unfold WMsg.size
  omega
/-- the front of a stream: the message is whole, or not yet -/
theorem front {m : WMsg} (hm : Fit m) {l q r : List UInt8} (hl : l.length ≤ 9223372036854770000) (h : l ++ q = packL m ++ r) :
    (l.length < (packL m).length ∧ unpack l = .bad 3) ∨ ∃ x, l = packL m ++ x ∧ x ++ q = r ∧ unpack l = .ok m (packL m).length := by
  by_cases hlt : l.length < (packL m).length
  · left
    refine ⟨hlt, ?_⟩
    apply Classical.byContradiction
    intro hn
    have h1 := unpack_more l q hn
    rw [h, unpack_packed m hm.id hm.to hm.e] at h1
    have := (unpack_ok l hl m _ h1.symm).2.2
    omega
  · right
    obtain ⟨x, hx⟩ : ∃ x, l = packL m ++ x := by
      have h2 : packL m = l.take (packL m).length := by
        have := congrArg (List.take (packL m).length) h
        rw [List.take_left, List.take_append_of_le_length (by omega)] at this
        exact this.symm
      refine ⟨l.drop (packL m).length, ?_⟩
      have h3 := List.take_append_drop (packL m).length l
      rw [← h2] at h3
      exact h3.symm
    refine ⟨x, hx, ?_, ?_⟩
    · rw [hx, List.append_assoc] at h
      exact List.append_cancel_left h
    · rw [hx]
      exact unpack_packed m hm.id hm.to hm.e x
def bang : ByteArray := ⟨#[33]⟩
def docketB : ByteArray := ⟨#[100, 111, 99, 107, 101, 116]⟩
def helloM (sums : Bool) : WMsg := ⟨1, 0, 1, docketB, sums⟩
def welcomeM (sums : Bool) : WMsg := ⟨0, 1, 2, docketB, sums⟩
def askMs (sums : Bool) (j : Nat) (b : ByteArray) : WMsg := ⟨j, 0, 3, b, sums⟩
def replyM (sums : Bool) (j : Nat) (b : ByteArray) : WMsg := ⟨0, j, 4, b ++ bang, sums⟩
def byeMs (sums : Bool) (j : Nat) : WMsg := ⟨j, 0, 5, ⟨#[]⟩, sums⟩
def byeA (sums : Bool) (j : Nat) : WMsg := ⟨0, j, 5, ⟨#[]⟩, sums⟩
def asksM (sums : Bool) : Nat → List ByteArray → List WMsg
  | _, [] => []
  | j, b :: r => askMs sums j b :: asksM sums (j + 1) r
def repsM (sums : Bool) : Nat → List ByteArray → List WMsg
  | _, [] => []
  | j, b :: r => replyM sums j b :: repsM sums (j + 1) r
def heldL : Nat → List ByteArray → List (Nat × ByteArray × Bool)
  | _, [] => []
  | j, b :: r => (j, b, false) :: heldL (j + 1) r
theorem heldL_len : ∀ (l : List ByteArray) (j : Nat), (heldL j l).length = l.length
  | [], _ => rfl
  | b :: r, j => by simp [heldL, heldL_len r (j + 1)]
theorem heldL_snoc : ∀ (l : List ByteArray) (j : Nat) (b : ByteArray), heldL j (l ++ [b]) = heldL j l ++ [(j + l.length, b, false)]
  | [], j, b => rfl
  | x :: r, j, b => by
    show (j, x, false) :: heldL (j + 1) (r ++ [b]) = (j, x, false) :: (heldL (j + 1) r ++ _)
    rw [heldL_snoc r (j + 1) b, List.length_cons, show j + 1 + r.length = j + (r.length + 1) by omega]
theorem repsM_snoc (sums : Bool) : ∀ (l : List ByteArray) (j : Nat) (b : ByteArray), repsM sums j (l ++ [b]) = repsM sums j l ++ [replyM sums (j + l.length) b]
  | [], j, b => rfl
  | x :: r, j, b => by
    show replyM sums j x :: repsM sums (j + 1) (r ++ [b]) = replyM sums j x :: (repsM sums (j + 1) r ++ _)
    rw [repsM_snoc sums r (j + 1) b, List.length_cons, show j + 1 + r.length = j + (r.length + 1) by omega]
theorem asksM_snoc (sums : Bool) : ∀ (l : List ByteArray) (j : Nat) (b : ByteArray), asksM sums j (l ++ [b]) = asksM sums j l ++ [askMs sums (j + l.length) b]
  | [], j, b => rfl
  | x :: r, j, b => by
    show askMs sums j x :: asksM sums (j + 1) (r ++ [b]) = askMs sums j x :: (asksM sums (j + 1) r ++ _)
    rw [asksM_snoc sums r (j + 1) b, List.length_cons, show j + 1 + r.length = j + (r.length + 1) by omega]
theorem heldL_ids : ∀ (l : List ByteArray) (j N : Nat), j + l.length ≤ N → ∀ x ∈ heldL j l, x.1 < N
  | [], _, _, _, x, h => by cases h
  | b :: r, j, N, hj, x, h => by
    rw [List.length_cons] at hj
    rcases List.mem_cons.1 h with rfl | h
    · show j < N; omega
    · exact heldL_ids r (j + 1) N (by omega) x h
theorem fit_of {m : WMsg} (hi : m.id < 4294967296) (ht : m.to < 4294967296) (h1 : 1 ≤ m.kind) (h6 : m.kind ≤ 6) (hb : m.body.size ≤ 100001) : Fit m := by
  refine ⟨hi, ht, ?_⟩
  unfold packE
  rw [if_neg (by omega), if_neg]
  unfold WMsg.size
  split <;> omega
theorem fit_hello (sums : Bool) : Fit (helloM sums) := fit_of (by show 1 < _; omega) (by show 0 < _; omega) (by show (1 : Int) ≤ 1; decide) (by show (1 : Int) ≤ 6; decide) (by show 6 ≤ _; omega)
theorem fit_welcome (sums : Bool) : Fit (welcomeM sums) := fit_of (by show 0 < _; omega) (by show 1 < _; omega) (by show (1 : Int) ≤ 2; decide) (by show (2 : Int) ≤ 6; decide) (by show 6 ≤ _; omega)
theorem fit_ask (sums : Bool) (j : Nat) (b : ByteArray) (hj : j ≤ 100000) (hb : b.size ≤ 100000) : Fit (askMs sums j b) := fit_of (by show j < _; omega) (by show 0 < _; omega) (by show (1 : Int) ≤ 3; decide) (by show (3 : Int) ≤ 6; decide) (by show b.size ≤ _; omega)
theorem bang_size (b : ByteArray) : (b ++ bang).size = b.size + 1 := by rw [ByteArray.size_append]; rfl
theorem fit_reply (sums : Bool) (j : Nat) (b : ByteArray) (hj : j ≤ 100000) (hb : b.size ≤ 100000) : Fit (replyM sums j b) := fit_of (by show 0 < _; omega) (by show j < _; omega) (by show (1 : Int) ≤ 4; decide) (by show (4 : Int) ≤ 6; decide) (by show (b ++ bang).size ≤ _; rw [bang_size]; omega)
theorem fit_bye (sums : Bool) (j : Nat) (hj : j ≤ 100000) : Fit (byeMs sums j) := fit_of (by show j < _; omega) (by show 0 < _; omega) (by show (1 : Int) ≤ 5; decide) (by show (5 : Int) ≤ 6; decide) (by show 0 ≤ _; omega)
theorem fit_byeA (sums : Bool) (j : Nat) (hj : j ≤ 100000) : Fit (byeA sums j) := fit_of (by show 0 < _; omega) (by show j < _; omega) (by show (1 : Int) ≤ 5; decide) (by show (5 : Int) ≤ 6; decide) (by show 0 ≤ _; omega)
/-- what is under way to the server -/
def upM (sums : Bool) (N j : Nat) (Q : List ByteArray) (sb eb : Bool) : List WMsg := (if sb then [] else [helloM sums]) ++ (asksM sums j Q ++ if eb then [byeMs sums (N + 2)] else [])
/-- a server that has heard so much: X answered, H held -/
structure SrvS (sums : Bool) (N X : Nat) (H : List ByteArray) (sb se : Bool) (s : Sv) : Prop where
  closed : s.closed = (se && H.isEmpty)
  why : s.why = 0
  sums : s.sums = (sb && sums)
  began : s.began = sb
  ending : s.ending = se
  bye : se = true → s.bye = N + 2
  byeN : s.bye ≤ N + 2
  held : s.held = heldL (X + 2) H
  last : s.last ≤ X + H.length + 1
theorem unpack_nil : unpack [] = .bad 3 := by kernel_rfl
theorem took_zero {s t : Sv} {m : WMsg} (h : s.take m = (t, 0)) : s.took m = t := by
  unfold Sv.took Sv.failed
  rw [h]
  exact if_pos rfl
theorem parts_none {s : Sv} (h : (s.ending && s.held.isEmpty && !s.closed) = false) : s.parts = s := by
  unfold Sv.parts
  rw [h]
  rfl
theorem srv_loop (sums : Bool) (N X : Nat) (ended : Bool) (hN : N ≤ 1000) : ∀ (n : Nat) (s : Sv) (H Q : List ByteArray) (sb se : Bool) (rest : List UInt8), s.inp.length < n → s.inp.length ≤ 9223372036854770000 →
    SrvS sums N X H sb se s → X + H.length + Q.length = N → H.length + Q.length ≤ 16 → (∀ b ∈ H ++ Q, b.size ≤ 100000) → (se = true → Q = [] ∧ ended = true) → (sb = false → se = false) →
    s.inp ++ rest = flatM (upM sums N (X + H.length + 2) Q sb (ended && !se)) →
    ∃ H' Q' sb' se', SrvS sums N X H' sb' se' (s.loop n) ∧ H ++ Q = H' ++ Q' ∧ (se' = true → Q' = [] ∧ ended = true) ∧ (sb' = false → se' = false) ∧
      (s.loop n).inp ++ rest = flatM (upM sums N (X + H'.length + 2) Q' sb' (ended && !se')) ∧
      (s.loop n).out = s.out ++ flatM ((if sb' && !sb then [welcomeM sums] else []) ++ (if (s.loop n).closed && !s.closed then [byeA sums (N + 2)] else [])) ∧
      (rest = [] → sb' = true ∧ Q' = [] ∧ se' = ended) ∧ (sb = true → sb' = true) ∧ (s.closed = true → (s.loop n).closed = true) ∧ (sb' = false → H' = H) := by
  intro n
  induction n with
  | zero => intro s H Q sb se rest h; omega
  | succ n ih =>
    intro s H Q sb se rest hn hbig hS hlen h16 hQ hse hsb hst
    have stay : s.loop (n + 1) = s → (rest = [] → sb = true ∧ Q = [] ∧ se = ended) → ∃ H' Q' sb' se', SrvS sums N X H' sb' se' (s.loop (n + 1)) ∧ H ++ Q = H' ++ Q' ∧ (se' = true → Q' = [] ∧ ended = true) ∧ (sb' = false → se' = false) ∧
      (s.loop (n + 1)).inp ++ rest = flatM (upM sums N (X + H'.length + 2) Q' sb' (ended && !se')) ∧
      (s.loop (n + 1)).out = s.out ++ flatM ((if sb' && !sb then [welcomeM sums] else []) ++ (if (s.loop (n + 1)).closed && !s.closed then [byeA sums (N + 2)] else [])) ∧
      (rest = [] → sb' = true ∧ Q' = [] ∧ se' = ended) ∧ (sb = true → sb' = true) ∧ (s.closed = true → (s.loop (n + 1)).closed = true) ∧ (sb' = false → H' = H) := by
      intro e hr
      rw [e]
      refine ⟨H, Q, sb, se, hS, rfl, hse, hsb, hst, ?_, hr, fun h => h, fun h => h, fun _ => rfl⟩
      have e1 : (sb && !sb) = false := by cases sb <;> rfl
      have e2 : (s.closed && !s.closed) = false := by cases s.closed <;> rfl
      rw [e1, e2]
      simp [flatM]
    by_cases hstop : (s.closed || s.ending) = true
    · have hset : se = true := by
        rw [hS.closed, hS.ending] at hstop
        cases se with
        | true => rfl
        | false => simp at hstop
      refine stay (rloop_closed (n + 1) s hstop) (fun _ => ⟨?_, (hse hset).1, by rw [hset, (hse hset).2]⟩)
      cases sb with
      | true => rfl
      | false => rw [hsb rfl] at hset; cases hset
    · have hsef : se = false := by
        cases se with
        | false => rfl
        | true => rw [hS.ending, Bool.or_true] at hstop; exact absurd rfl hstop
      have hcl : s.closed = false := by rw [hS.closed, hsef]; rfl
      subst hsef
      -- the message at the front
      have step : ∀ (m : WMsg) (r : List WMsg), Fit m → upM sums N (X + H.length + 2) Q sb (ended && !false) = m :: r →
          (∀ x, s.inp = packL m ++ x → x ++ rest = flatM r → ∃ H' Q' sb' se' t, (s.cut (packL m).length).take m = (t, 0) ∧ t.inp = x ∧ SrvS sums N X H' sb' se' t ∧ H ++ Q = H' ++ Q' ∧ (se' = true → Q' = [] ∧ ended = true) ∧ (sb' = false → se' = false) ∧ r = upM sums N (X + H'.length + 2) Q' sb' (ended && !se') ∧
            t.out = s.out ++ flatM ((if sb' && !sb then [welcomeM sums] else []) ++ (if t.closed then [byeA sums (N + 2)] else [])) ∧ (sb' = true) ∧ (t.closed = true → sb = true)) →
          ∃ H' Q' sb' se', SrvS sums N X H' sb' se' (s.loop (n + 1)) ∧ H ++ Q = H' ++ Q' ∧ (se' = true → Q' = [] ∧ ended = true) ∧ (sb' = false → se' = false) ∧
            (s.loop (n + 1)).inp ++ rest = flatM (upM sums N (X + H'.length + 2) Q' sb' (ended && !se')) ∧
            (s.loop (n + 1)).out = s.out ++ flatM ((if sb' && !sb then [welcomeM sums] else []) ++ (if (s.loop (n + 1)).closed && !s.closed then [byeA sums (N + 2)] else [])) ∧
            (rest = [] → sb' = true ∧ Q' = [] ∧ se' = ended) ∧ (sb = true → sb' = true) ∧ (s.closed = true → (s.loop (n + 1)).closed = true) ∧ (sb' = false → H' = H) := by
        intro m r hm hup hnext
        rw [hup, flatM_cons] at hst
        rcases front hm hbig hst with ⟨hlt, hu⟩ | ⟨x, hx, hxr, hu⟩
        · refine stay ((rloop_bad n s 3 hstop hu).trans (if_pos rfl)) (fun hr => ?_)
          rw [hr, List.append_nil] at hst
          rw [hst, List.length_append] at hlt
          omega
        · obtain ⟨H1, Q1, sb1, se1, t, htk, hti, hS1, hHQ, hse1, hsb1, hr1, hto, hbb, hcb⟩ := hnext x hx hxr
          have hlp := rloop_ok n s m _ hstop hu
          rw [took_zero htk] at hlp
          have hpos := hm.pos
          have hil : s.inp.length = (packL m).length + x.length := by rw [hx, List.length_append]
          have hcnt : H.length + Q.length = H1.length + Q1.length := by have := congrArg List.length hHQ; simpa using this
          obtain ⟨H2, Q2, sb2, se2, a1, a2, a3, a4, a5, a6, a7, a8, a9, a10⟩ := ih t H1 Q1 sb1 se1 rest (by rw [hti]; omega) (by rw [hti]; omega) hS1 (by omega) (by omega)
            (fun b hb => hQ b (by rw [hHQ]; exact hb)) hse1 hsb1 (by rw [hti, hxr, hr1])
          rw [hlp]
          refine ⟨H2, Q2, sb2, se2, a1, hHQ.trans a2, a3, a4, a5, ?_, a7, fun _ => a8 hbb, fun h => by (rw [hcl] at h; cases h), fun h => by (rw [a8 hbb] at h; cases h)⟩
          rw [a6, hto, List.append_assoc, ← flatM_app]
          congr 2
          rw [hcl]
          cases sb with
          | true =>
            have e1 := hbb
            subst e1
            have e2 := a8 rfl
            subst e2
            cases htc : t.closed with
            | true => rw [a9 htc]; simp
            | false => simp
          | false =>
            have htc : t.closed = false := by
              cases h : t.closed with
              | false => rfl
              | true => have := hcb h; cases this
            rw [htc]
            have e1 := hbb
            subst e1
            have e2 := a8 rfl
            subst e2
            simp
      cases sb with
      | false =>
        refine step (helloM sums) _ (fit_hello sums) rfl (fun x hx hxr => ?_)
        refine ⟨H, Q, true, false, ({ s.cut (packL (helloM sums)).length with sums := sums, began := true } : Sv).send (msgTo 1 2 docketB), ?_, ?_, ?_, rfl, (fun h => by cases h), (fun h => by cases h), ?_, ?_, rfl, (fun h => ?_)⟩
        · unfold Sv.take
          rw [if_pos (show (s.cut (packL (helloM sums)).length).began = false from hS.began), if_neg (by simp [helloM])]
          exact congrArg _ (fit_welcome sums).e
        · show s.inp.drop _ = x
          rw [hx, List.drop_left]
        · exact ⟨hS.closed, hS.why, rfl, rfl, hS.ending, (fun h => by cases h), hS.byeN, hS.held, hS.last⟩
        · rfl
        · show s.out ++ packL _ = _
          rw [show (Sv.send { s.cut (packL (helloM sums)).length with sums := sums, began := true } (msgTo 1 2 docketB)).closed = false from hcl]
          simp [flatM]
          rfl
        · rw [show (Sv.send { s.cut (packL (helloM sums)).length with sums := sums, began := true } (msgTo 1 2 docketB)).closed = false from hcl] at h
          cases h
      | true =>
        have hbg : ¬ s.began = false := by rw [hS.began]; decide
        cases Q with
        | cons b Q2 =>
          rw [List.length_cons] at hlen h16
          have hbs : b.size ≤ 100000 := hQ b (List.mem_append_right _ (.head _))
          refine step (askMs sums (X + H.length + 2) b) _ (fit_ask sums _ b (by omega) hbs) rfl (fun x hx hxr => ?_)
          refine ⟨H ++ [b], Q2, true, false, { s.cut (packL (askMs sums (X + H.length + 2) b)).length with last := X + H.length + 2, held := s.held ++ [(X + H.length + 2, b, false)] }, ?_, ?_, ?_, (by simp), (fun h => by cases h), (fun h => by cases h), ?_, ?_, rfl, (fun _ => rfl)⟩
          · unfold Sv.take
            rw [if_neg (show ¬ (s.cut (packL (askMs sums (X + H.length + 2) b)).length).began = false from hbg), if_pos (show (askMs sums (X + H.length + 2) b).kind = 3 from rfl), if_neg (by show ¬ (X + H.length + 2 ≤ s.last); have := hS.last; omega), if_neg (by show ¬ 16 ≤ s.held.length; rw [hS.held, heldL_len]; omega)]
            rfl
          · show s.inp.drop _ = x
            rw [hx, List.drop_left]
          · refine ⟨?_, hS.why, hS.sums, hS.began, hS.ending, (fun h => by cases h), hS.byeN, ?_, ?_⟩
            · show s.closed = _
              rw [hcl]
              rfl
            · show s.held ++ _ = _
              rw [hS.held, heldL_snoc, show X + 2 + H.length = X + H.length + 2 by omega]
            · show X + H.length + 2 ≤ _
              rw [List.length_append]
              simp
              omega
          · rw [List.length_append]
            rfl
          · show s.out = _
            rw [show ({ s.cut (packL (askMs sums (X + H.length + 2) b)).length with last := X + H.length + 2, held := s.held ++ [(X + H.length + 2, b, false)] } : Sv).closed = false from hcl]
            simp [flatM]
        | nil =>
          cases hend : ended with
          | false =>
            subst hend
            have h0 : s.inp ++ rest = [] := hst
            obtain ⟨hi, hr⟩ := List.append_eq_nil_iff.1 h0
            exact stay ((rloop_bad n s 3 hstop (by rw [hi]; exact unpack_nil)).trans (if_pos rfl)) (fun _ => ⟨rfl, rfl, rfl⟩)
          | true =>
            subst hend
            rw [List.length_nil] at hlen
            refine step (byeMs sums (N + 2)) [] (fit_bye sums _ (by omega)) rfl (fun x hx hxr => ?_)
            have htk : (s.cut (packL (byeMs sums (N + 2))).length).take (byeMs sums (N + 2)) = (({ s.cut (packL (byeMs sums (N + 2))).length with bye := N + 2, ending := true } : Sv).parts, 0) := by
              unfold Sv.take
              rw [if_neg (show ¬ (s.cut (packL (byeMs sums (N + 2))).length).began = false from hbg), if_neg (by simp [byeMs]), if_pos (show (byeMs sums (N + 2)).kind = 5 from rfl)]
              rfl
            have hxn : x = [] := by
              have : x ++ rest = [] := hxr
              exact (List.append_eq_nil_iff.1 this).1
            cases H with
            | nil =>
              have hp : ({ s.cut (packL (byeMs sums (N + 2))).length with bye := N + 2, ending := true } : Sv).parts = { ({ s.cut (packL (byeMs sums (N + 2))).length with bye := N + 2, ending := true } : Sv).send (msgTo (N + 2) 5 ⟨#[]⟩) with closed := true } := by
                unfold Sv.parts
                rw [if_pos]
                show (true && s.held.isEmpty && !s.closed) = true
                rw [hS.held, hcl]
                rfl
              rw [hp] at htk
              refine ⟨[], [], true, true, _, htk, ?_, ⟨rfl, hS.why, hS.sums, hS.began, rfl, fun _ => rfl, Nat.le_refl _, hS.held, hS.last⟩, rfl, (fun _ => ⟨rfl, rfl⟩), (fun h => by cases h), rfl, ?_, rfl, (fun _ => rfl)⟩
              · show s.inp.drop _ = x
                rw [hx, List.drop_left]
              · show s.out ++ packL ((msgTo (N + 2) 5 ⟨#[]⟩).summed s.sums) = _
                rw [hS.sums]
                simp [flatM]
                rfl
            | cons y r =>
              have hp : ({ s.cut (packL (byeMs sums (N + 2))).length with bye := N + 2, ending := true } : Sv).parts = { s.cut (packL (byeMs sums (N + 2))).length with bye := N + 2, ending := true } := by
                refine parts_none ?_
                show (true && s.held.isEmpty && !s.closed) = false
                rw [hS.held]
                rfl
              rw [hp] at htk
              refine ⟨y :: r, [], true, true, _, htk, ?_, ⟨hcl, hS.why, hS.sums, hS.began, rfl, fun _ => rfl, Nat.le_refl _, hS.held, hS.last⟩, rfl, (fun _ => ⟨rfl, rfl⟩), (fun h => by cases h), rfl, ?_, rfl, (fun _ => rfl)⟩
              · show s.inp.drop _ = x
                rw [hx, List.drop_left]
              · show s.out = _
                rw [show ({ s.cut (packL (byeMs sums (N + 2))).length with bye := N + 2, ending := true } : Sv).closed = false from hcl]
                simp [flatM]
end Go.Proofs.YtkpickojeghppaaDoor
