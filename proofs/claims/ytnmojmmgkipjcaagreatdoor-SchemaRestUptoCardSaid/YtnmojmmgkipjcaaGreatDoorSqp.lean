/- Plain laws for SchemaRest: a member that no rule names has no part, unless none may stand beside. Conditions: none. -/
import Derived.Test.YtnmojmmgkipjcaaGreatDoorSju
namespace Go.Proofs.YtnmojmmgkipjcaaGreatDoor
open Go.RowKit
theorem vres_out {P : Program} {f : FuncId} {args : Array Value} {w w0 : World} {ok : Nat → Prop} {t : JV} (h : Calls P f args w (VRes w0 ok t)) : Calls P f args w fun e w' => ∃ cs : List Value, e = .returned (.agg cs.toArray) ∧ Hid (Rep w' (fun b => ok b ∨ w0.heap.size ≤ b) t cs) ∧ Hid (Below w0.heap.size w0 w') := h
/-- an object with one member more -/
def widerJ (v : JV) (nm : ByteArray) (x : JV) : JV := .mk 6 0 ⟨#[]⟩ (v.names ++ [nm]) (v.items ++ [x])
def jfalse : JV := .mk 1 0 ⟨#[]⟩ [] []
/-- properties, and none beside -/
def onlyJ (p : JV) : JV := .mk 6 0 ⟨#[]⟩ [⟨#[112, 114, 111, 112, 101, 114, 116, 105, 101, 115]⟩, ⟨#[97, 100, 100, 105, 116, 105, 111, 110, 97, 108]⟩] [p, jfalse]
theorem has_wider {v : JV} {nm n : ByteArray} {x : JV} (h6 : v.kind = 6) (hl : v.items.length = v.names.length) (hn : n ≠ nm) : hasJ (widerJ v nm x) n = hasJ v n := by
  obtain ⟨k, i, s, ns, is⟩ := v
  obtain rfl : k = 6 := h6
  show hasG n (ns ++ [nm]) (is ++ [x]) = hasG n ns is
  rw [hasG_app n ns is [nm] [x] hl, hasG, if_neg (by rw [bytes_ne (Ne.symm hn)]; decide)]
  cases hasG n ns is <;> rfl
theorem faultP_wider {v : JV} {nm : ByteArray} {x : JV} (h6 : v.kind = 6) (hl : v.items.length = v.names.length) : ∀ (is : List JV) (ns : List ByteArray), nm ∉ ns → faultP is ns (widerJ v nm x) = faultP is ns v
  | [], _, _ => by rw [faultP, faultP]
  | _ :: _, [], _ => by rw [faultP, faultP]
  | t :: is, n :: ns, hn => by
    have h1 : n ≠ nm := fun e => hn (by simp [e])
    have h2 : nm ∉ ns := fun e => hn (by simp [e])
    rw [faultP, faultP, has_wider h6 hl h1, faultP_wider h6 hl is ns h2]
theorem rest_fault {p v x : JV} {nm : ByteArray} (h6 : v.kind = 6) (hl : v.items.length = v.names.length) (hn : nm ∉ p.names) : (faultS (jobj ⟨#[112, 114, 111, 112, 101, 114, 116, 105, 101, 115]⟩ p) (widerJ v nm x)).isNone = (faultS (jobj ⟨#[112, 114, 111, 112, 101, 114, 116, 105, 101, 115]⟩ p) v).isNone := by
  rw [fault_one, fault_one]
  obtain ⟨k, i, s, ns, is⟩ := p
  rw [faultR, faultR, if_pos rfl, if_pos rfl, faultP_wider h6 hl is ns hn]
theorem only_fault {p v x : JV} {nm : ByteArray} (hl : v.items.length = v.names.length) (hn : nm ∉ p.names) : (faultS (onlyJ p) (widerJ v nm x)).isNone = false := by
  have hk : knownJ [⟨#[112, 114, 111, 112, 101, 114, 116, 105, 101, 115]⟩, ⟨#[97, 100, 100, 105, 116, 105, 111, 110, 97, 108]⟩] [p, jfalse] = p := by unfold knownJ; rw [hasG, if_pos (bytes_eq.2 rfl)]; rfl
  have hb : leafKept ⟨#[97, 100, 100, 105, 116, 105, 111, 110, 97, 108]⟩ jfalse p (widerJ v nm x) = false := by
    unfold leafKept
    rw [if_neg (by decide), if_neg (by decide), if_neg (by decide), if_pos rfl]
    rw [List.all_eq_false]
    refine ⟨nm, ?_, ?_⟩
    · have hm : membersJ (widerJ v nm x) = v.names.length + 1 := by
        unfold membersJ widerJ
        rw [if_pos (show (JV.mk 6 0 ⟨#[]⟩ (v.names ++ [nm]) (v.items ++ [x])).kind = 6 from rfl)]
        show min (v.names ++ [nm]).length (v.items ++ [x]).length = _
        simp [hl]
      rw [hm]
      show nm ∈ (v.names ++ [nm]).take (v.names.length + 1)
      rw [List.take_of_length_le (by simp)]
      simp
    · have : Lib.containsS p.names nm = false := by
        cases h : Lib.containsS p.names nm with
        | false => rfl
        | true => exact absurd ((Lib.containsS_iff _ _).1 h) hn
      rw [this]
      decide
  unfold onlyJ
  rw [faultS, hk, faultL]
  cases faultR p ⟨#[112, 114, 111, 112, 101, 114, 116, 105, 101, 115]⟩ p (widerJ v nm x) with
  | some pw => rfl
  | none =>
    show (faultL [jfalse] [⟨#[97, 100, 100, 105, 116, 105, 111, 110, 97, 108]⟩] p (widerJ v nm x)).isNone = false
    rw [faultL]
    have h2 : faultR jfalse ⟨#[97, 100, 100, 105, 116, 105, 111, 110, 97, 108]⟩ p (widerJ v nm x) = some ([], ⟨#[]⟩) := by
      unfold jfalse
      rw [faultR, if_neg (by decide), if_neg (by decide), if_neg (by decide), if_neg (by decide), if_neg (by decide)]
      show (if leafKept ⟨#[97, 100, 100, 105, 116, 105, 111, 110, 97, 108]⟩ jfalse p (widerJ v nm x) = true then none else some ([], (⟨#[]⟩ : ByteArray))) = _
      rw [hb]
      rfl
    rw [h2]
    rfl
theorem wider_size (v : JV) (nm : ByteArray) (x : JV) (h : v.names.length = v.items.length) : (widerJ v nm x).size = v.size + x.size := by
  obtain ⟨k, i, s, ns, is⟩ := v
  have app : ∀ a b : List JV, JV.sizes (a ++ b) = JV.sizes a + JV.sizes b := by
    intro a b
    induction a with
    | nil => simp [JV.sizes]
    | cons x a ih => rw [List.cons_append, JV.sizes, JV.sizes, ih]; omega
  show (JV.mk 6 0 ⟨#[]⟩ (ns ++ [nm]) (is ++ [x])).size = _
  rw [JV.size, JV.size, app, JV.sizes, JV.sizes]
  omega
theorem wider_bulk (v : JV) (nm : ByteArray) (x : JV) : (widerJ v nm x).bulk ≤ v.bulk + x.bulk + nm.size + 1 := by
  obtain ⟨k, i, s, ns, is⟩ := v
  have app : ∀ a b : List JV, JV.bulks (a ++ b) = JV.bulks a + JV.bulks b := by
    intro a b
    induction a with
    | nil => simp [JV.bulks]
    | cons x a ih => rw [List.cons_append, JV.bulks, JV.bulks, ih]; omega
  have app2 : ∀ a b : List ByteArray, strsBulk (a ++ b) = strsBulk a + strsBulk b := by
    intro a b
    induction a with
    | nil => simp [strsBulk]
    | cons x a ih => rw [List.cons_append, strsBulk, strsBulk, ih]; omega
  show (JV.mk 6 0 ⟨#[]⟩ (ns ++ [nm]) (is ++ [x])).bulk ≤ _
  rw [JV.bulk, JV.bulk, app, app2, JV.bulks, JV.bulks, strsBulk, strsBulk]
  have : (⟨#[]⟩ : ByteArray).size = 0 := rfl
  omega
theorem two_small {l : List JV} {u v : JV} {a b c : List JV} (h : largeS l = false) (e : l = a ++ u :: (b ++ v :: c)) : u.size + v.size ≤ 3000 := by
  subst e
  have h1 : sumP (a ++ u :: (b ++ v :: c)) ≤ 3000 := by
    have := of_decide_eq_false h
    omega
  have pos : ∀ q : List JV, 0 ≤ sumP q := by
    intro q
    induction q with
    | nil => simp [sumP]
    | cons y q ihq => have := parts_bd y 3000; rw [sumP]; omega
  have app : ∀ p q : List JV, sumP (p ++ q) = sumP p + sumP q := by
    intro p q
    induction p with
    | nil => simp [sumP]
    | cons y p ih => rw [List.cons_append, sumP, sumP, ih]; omega
  rw [app, sumP, app, sumP] at h1
  have p1 := pos a
  have p2 := pos b
  have p3 := pos c
  have b1 := parts_bd u 3000
  have b2 := parts_bd v 3000
  have s1 := parts_size u 3000 (by omega)
  have s2 := parts_size v 3000 (by omega)
  omega
end Go.Proofs.YtnmojmmgkipjcaaGreatDoor
