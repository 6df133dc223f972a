/- Both ends whose bytes reach each other, in plain Lean: an answer; the beginning; the end. Conditions: none. -/
import Derived.Test.YtkpickojeghppaaDoorMpc
import Derived.Test.YtkpickojeghppaaDoorWpr
namespace Go.Proofs.YtkpickojeghppaaDoor
def ms0 (sums : Bool) : MS := ⟨cl0 sums, sv0, [], [], [], 0, 0, false⟩
theorem ms0_inv (sums : Bool) : MInv sums (ms0 sums) [] [] [] [] false false false false := by
  refine ⟨rfl, rfl, rfl, by simp, (fun b hb => by cases hb), by simp [ms0], ⟨rfl, rfl, rfl, rfl, rfl, (fun h => by cases h), by show 0 ≤ _; omega, rfl, by show 0 ≤ _; omega⟩,
    ⟨rfl, rfl, rfl, rfl, rfl, (fun h => by cases h), rfl, rfl, rfl⟩, (fun h => by cases h), (fun _ => rfl), (fun _ => ⟨rfl, rfl⟩), (fun h => by cases h), (fun h => by cases h), ?_, rfl⟩
  show [] ++ ([] ++ ([] ++ packL _)) = _
  simp [upM, asksM, flatM, ms0]
  rfl
section
variable {sums : Bool} {t : MS} {Y Z H Q : List ByteArray} {sb cb se ce : Bool}
theorem MInv.idle (h : MInv sums t Y Z [] Q sb cb se ce) : t.answer = t ∧ t.s.next = t.s ∧ t.s.nextV = .tuple #[.int .u32 0, .string ⟨#[]⟩, .bool false] := by
  have hh : t.s.held = [] := h.srv.held
  refine ⟨?_, ?_, ?_⟩
  · unfold MS.answer; rw [hh]
  · unfold Sv.next; rw [hh]; rfl
  · unfold Sv.nextV; rw [hh]; rfl
/-- an answer -/
theorem MInv.answer {b : ByteArray} (h : MInv sums t Y Z (b :: H) Q sb cb se ce) :
    MInv sums t.answer Y (Z ++ [b]) H Q sb cb se ce ∧ t.s.nextV = .tuple #[.int .u32 ((Y.length + Z.length + 2 : Nat) : Int), .string b, .bool true] ∧ (t.s.next.answer (b ++ bang)).2 = 0 ∧ t.answer = { t with s := (t.s.next.answer (b ++ bang)).1, heard := t.heard + 1 } ∧
    t.asked[t.heard]? = some b ∧ (b ++ bang).size ≤ 100001 := by
  have hlen := h.len
  rw [List.length_cons] at hlen
  have hbs : b.size ≤ 100000 := h.big b (by rw [h.asked]; simp)
  have hN := h.n
  have hheld : t.s.held = (Y.length + Z.length + 2, b, false) :: heldL (Y.length + Z.length + 2 + 1) H := h.srv.held
  have hnx : t.s.next = { t.s with held := (Y.length + Z.length + 2, b, true) :: heldL (Y.length + Z.length + 2 + 1) H } := by
    unfold Sv.next
    rw [hheld]
    rfl
  have hnv : t.s.nextV = .tuple #[.int .u32 ((Y.length + Z.length + 2 : Nat) : Int), .string b, .bool true] := by
    unfold Sv.nextV
    rw [hheld]
    rfl
  have hcl : t.s.closed = false := by
    rw [h.srv.closed]
    simp
  have hsbt : sb = true := by
    cases hs : sb with
    | true => rfl
    | false => have := (h.nosb hs).2; cases this
  have hsm : t.s.sums = sums := by rw [h.srv.sums, hsbt]; rfl
  have hce : ce = false := by
    cases x : ce with
    | false => rfl
    | true => rw [(h.ces x).1] at hcl; cases hcl
  have hans : t.s.next.answer (b ++ bang) = (({ t.s.next.send (msgTo (Y.length + Z.length + 2) 4 (b ++ bang)) with held := heldL (Y.length + Z.length + 2 + 1) H } : Sv).parts, 0) := by
    unfold Sv.answer
    rw [if_neg (by rw [hnx]; show ¬ t.s.closed = true; rw [hcl]; decide)]
    rw [show t.s.next.held = (Y.length + Z.length + 2, b, true) :: heldL (Y.length + Z.length + 2 + 1) H by rw [hnx]]
    refine if_pos ?_
    rw [show t.s.next.sums = sums by rw [hnx]; exact hsm]
    exact (fit_reply sums (Y.length + Z.length + 2) b (by omega) hbs).e
  have ht : t.answer = { t with s := (t.s.next.answer (b ++ bang)).1, heard := t.heard + 1 } := by
    unfold MS.answer
    rw [hheld]
  have hat : t.asked[t.heard]? = some b := by
    rw [h.asked, h.heard, ← List.append_assoc, List.getElem?_append_right (by rw [List.length_append]; omega), List.length_append, Nat.sub_self]
    rfl
  refine ⟨?_, hnv, by rw [hans], ht, hat, by rw [bang_size]; omega⟩
  rw [ht, hans]
  have hsend : (t.s.next.send (msgTo (Y.length + Z.length + 2) 4 (b ++ bang))).out = t.s.out ++ packL (replyM sums (Y.length + Z.length + 2) b) := by
    rw [hnx]
    show t.s.out ++ packL ((msgTo (Y.length + Z.length + 2) 4 (b ++ bang)).summed t.s.sums) = _
    rw [hsm]
    rfl
  obtain ⟨s2, hs2⟩ : ∃ s2 : Sv, ({ t.s.next.send (msgTo (Y.length + Z.length + 2) 4 (b ++ bang)) with held := heldL (Y.length + Z.length + 2 + 1) H } : Sv) = s2 := ⟨_, rfl⟩
  have hX : Y.length + (Z ++ [b]).length = Y.length + Z.length + 1 := by simp; omega
  have hS2 : SrvS sums t.asked.length (Y.length + Z.length + 1) H sb false { s2 with ending := false, closed := false, bye := s2.bye } ∧ s2.closed = false ∧ s2.ending = se ∧ s2.why = 0 ∧ (se = true → s2.bye = t.asked.length + 2) ∧ s2.inp = t.s.inp ∧ s2.out = t.s.out ++ packL (replyM sums (Y.length + Z.length + 2) b) := by
    rw [← hs2]
    refine ⟨⟨by simp, by rw [hnx]; exact h.srv.why, by rw [hnx]; exact h.srv.sums, by rw [hnx]; exact h.srv.began, rfl, (fun x => by cases x), by rw [hnx]; exact h.srv.byeN, rfl, ?_⟩, by rw [hnx]; exact hcl, by rw [hnx]; exact h.srv.ending, by rw [hnx]; exact h.srv.why, by rw [hnx]; exact h.srv.bye, by rw [hnx]; rfl, hsend⟩
    show t.s.next.last ≤ _
    rw [hnx]
    have := h.srv.last
    rw [List.length_cons] at this
    show t.s.last ≤ _
    omega
  obtain ⟨hS, hc2, he2, hw2, hb2, hi2, ho2⟩ := hS2
  have hheld2 : s2.held = heldL (Y.length + Z.length + 1 + 2) H := hS.held
  rw [hs2]
  have base : ∀ (s3 : Sv), SrvS sums t.asked.length (Y.length + Z.length + 1) H sb se s3 → s3.inp = t.s.inp → s3.out = t.s.out ++ flatM ([replyM sums (Y.length + Z.length + 2) b] ++ if s3.closed then [byeA sums (t.asked.length + 2)] else []) →
      MInv sums { t with s := s3, heard := t.heard + 1 } Y (Z ++ [b]) H Q sb cb se ce := by
    intro s3 hS3 hi3 ho3
    refine ⟨?_, h.got, ?_, ?_, h.big, h.n, by rw [hX]; exact hS3, h.cli, h.seq, h.sbf, (fun x => by rw [hsbt] at x; cases x), h.cbs, (fun x => by rw [hce] at x; cases x), ?_, ?_⟩
    · show t.asked = _
      rw [h.asked]
      simp
    · show t.heard + 1 = _
      rw [h.heard, hX]
    · have := h.h16
      rw [List.length_cons] at this
      rw [List.length_append, List.length_singleton]
      omega
    · rw [show Y.length + (Z ++ [b]).length + H.length = Y.length + Z.length + (b :: H).length by rw [hX, List.length_cons]; omega]
      show s3.inp ++ _ = _
      rw [hi3]
      exact h.upEq
    · show t.c.inp ++ (t.down ++ s3.out) = flatM (dnM sums t.asked.length (Y.length + 2) (Z ++ [b]) (sb && !cb) (s3.closed && !ce))
      rw [ho3, ← List.append_assoc t.down, ← List.append_assoc t.c.inp, h.dnEq, ← flatM_app, hcl, hce]
      congr 1
      unfold dnM
      rw [repsM_snoc, show Y.length + 2 + Z.length = Y.length + Z.length + 2 by omega]
      simp
  by_cases hp : (s2.ending && s2.held.isEmpty && !s2.closed) = true
  · have hse : se = true := by
      rw [he2] at hp
      cases se with
      | true => rfl
      | false => simp at hp
    have hH : H = [] := by
      rw [he2, hheld2, hse, hc2] at hp
      cases H with
      | nil => rfl
      | cons x r => cases hp
    have e : s2.parts = { s2.send (msgTo s2.bye 5 ⟨#[]⟩) with closed := true } := if_pos hp
    rw [e]
    subst hH
    refine base _ ⟨by rw [hse]; rfl, hw2, hS.sums, hS.began, he2, hb2, hS.byeN, hS.held, hS.last⟩ hi2 ?_
    show s2.out ++ packL ((msgTo s2.bye 5 ⟨#[]⟩).summed s2.sums) = _
    rw [ho2, show s2.sums = sums by have := hS.sums; rw [hsbt] at this; exact this, hb2 hse]
    simp [flatM]
    rfl
  · have e : s2.parts = s2 := if_neg hp
    rw [e]
    have hnot : (se && H.isEmpty) = false := by
      rw [he2, hheld2, hc2] at hp
      cases H with
      | nil => simpa [heldL] using hp
      | cons x r => simp
    refine base s2 ⟨by rw [hc2, hnot], hw2, hS.sums, hS.began, he2, hb2, hS.byeN, hS.held, hS.last⟩ hi2 ?_
    rw [ho2, hc2]
    simp [flatM]
end
/-- how it stands behind a round -/
structure MDone (sums : Bool) (t : MS) (k : Nat) : Prop where
  inv : ∃ Y H ce, MInv sums t Y [] H [] true true true ce ∧ ce = t.s.closed ∧ H.length ≤ k
theorem MDone.all {sums : Bool} {t : MS} (h : MDone sums t 0) : t.heard = t.asked.length ∧ t.got = t.asked.length ∧ t.c.closed = true ∧ t.s.closed = true := by
  obtain ⟨Y, H, ce, hi, hc, hl⟩ := h.inv
  have hH : H = [] := List.eq_nil_of_length_eq_zero (by omega)
  subst hH
  have hs : t.s.closed = true := by rw [hi.srv.closed]; rfl
  have := hi.len
  refine ⟨by rw [hi.heard]; simp at this ⊢; omega, by rw [hi.got]; simp at this; omega, by rw [hi.cli.closed, hc, hs], hs⟩
end Go.Proofs.YtkpickojeghppaaDoor
