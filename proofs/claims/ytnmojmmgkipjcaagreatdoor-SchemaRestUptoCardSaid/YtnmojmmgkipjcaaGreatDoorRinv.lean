/- A region that draws its order, walked by what holds of each set of operations that are done. Conditions: what the laws name. -/
import Derived.RegionTactic
import Derived.Orders
namespace Go.Proofs.YtnmojmmgkipjcaaGreatDoor
section
variable {P : Program} {ops : Array Oper} {Q : Exit → Act → World → Prop} {md : Region.Mode}
def unl (listed : Array Bool) : Nat → Nat
  | 0 => 0
  | n + 1 => unl listed n + (if listed.getD n true = true then 0 else 1)
theorem unl_past (listed : Array Bool) (i : Nat) : ∀ n, n ≤ i → unl (listed.setIfInBounds i true) n = unl listed n
  | 0, _ => rfl
  | n + 1, h => by rw [unl, unl, unl_past listed i n (by omega), getD_set_ne true (by omega)]
theorem unl_set (listed : Array Bool) (i : Nat) (hi : i < listed.size) (h : listed.getD i true = false) : ∀ n, i < n → unl (listed.setIfInBounds i true) n + 1 = unl listed n
  | 0, h0 => by omega
  | n + 1, h0 => by
    rw [unl, unl]
    rcases Nat.lt_or_ge i n with hlt | hge
    · have := unl_set listed i hi h n hlt
      rw [getD_set_ne true (by omega)]
      omega
    · obtain rfl : i = n := by omega
      rw [unl_past listed i i (Nat.le_refl _), h, if_pos (by simp [hi]), if_neg (by decide)]
theorem unl_zero (listed : Array Bool) : ∀ n, unl listed n = 0 → ∀ i, i < n → listed.getD i true = true
  | 0, _, i, hi => by omega
  | n + 1, h, i, hi => by
    rw [unl] at h
    rcases Nat.lt_or_ge i n with hlt | hge
    · exact unl_zero listed n (by omega) i hlt
    · obtain rfl : i = n := by omega
      by_cases e : listed.getD i true = true
      · exact e
      · rw [if_neg e] at h; omega
/-- edges lead back -/
def Back (ops : Array Oper) : Bool := (List.range ops.size).all fun i => ((ops[i]?).map (·.after.all fun e => decide (e.on < i))).getD true
theorem ready_nil (hb : Back ops = true) {listed : Array Bool} (hs : listed.size = ops.size) (h : Region.ready md ops listed = []) : ∀ n i, i < n → i < ops.size → listed.getD i true = true
  | 0, i, hi, _ => by omega
  | n + 1, i, hi, hsz => by
    have ih := ready_nil hb hs h n
    rcases Nat.lt_or_ge i n with hlt | hge
    · exact ih i hlt hsz
    obtain rfl : i = n := by omega
    cases e : listed.getD i true with
    | true => rfl
    | false =>
      have hm : i ∈ Region.ready md ops listed := by
        refine mem_ready.2 ⟨e, ops[i], by simp [hsz], fun ed hed _ => ?_⟩
        have h1 := List.all_eq_true.1 hb i (List.mem_range.2 hsz)
        have ho : ops[i]? = some ops[i] := by simp [hsz]
        rw [ho] at h1
        simp only [Option.map_some, Option.getD_some, Array.all_eq_true_iff_forall_mem, decide_eq_true_eq] at h1
        have h2 := h1 ed hed
        have h3 := ih ed.on h2 (by omega)
        have h4 : ed.on < listed.size := by omega
        simp only [Array.getD_eq_getD_getElem?, Array.getElem?_eq_getElem h4, Option.getD_some] at h3 ⊢
        exact h3
      rw [h] at hm
      cases hm
/-- what holds of what is done -/
theorem wpAny_inv (I : Array Bool → Act → World → Prop) (hb : Back ops = true)
    (step : ∀ listed a w i, listed.size = ops.size → i < ops.size → listed.getD i true = false → (∀ o, ops[i]? = some o → ∀ e ∈ o.after, Region.binds md e = true → listed.getD e.on false = true) → I listed a w → wpOp P ops Q i (I (listed.setIfInBounds i true)) a w)
    (fin : ∀ listed a w, listed.size = ops.size → (∀ i, i < ops.size → listed.getD i true = true) → I listed a w → Q .normal a w) :
    ∀ (fuel : Nat) (listed : Array Bool) (a : Act) (w : World), listed.size = ops.size → unl listed ops.size ≤ fuel → I listed a w → wpAny P md ops Q fuel listed a w
  | 0, listed, a, w, hs, hu, hI => by
    have hall := unl_zero listed ops.size (by omega)
    refine ⟨?_, fin listed a w hs hall hI⟩
    apply List.eq_nil_iff_forall_not_mem.2
    intro i hi
    obtain ⟨h0, o, ho, _⟩ := mem_ready.1 hi
    rw [hall i (Array.getElem?_eq_some_iff.1 ho).1] at h0
    cases h0
  | fuel + 1, listed, a, w, hs, hu, hI => by
    refine ⟨fun h => fin listed a w hs (fun i hi => ready_nil hb hs h (i + 1) i (by omega) hi) hI, fun i hi => ?_⟩
    obtain ⟨h0, o, ho, hall⟩ := mem_ready.1 hi
    have hlt := (Array.getElem?_eq_some_iff.1 ho).1
    have hun := unl_set listed i (by omega) h0 ops.size hlt
    refine wpOp_mono (fun a' w' h => wpAny_inv I hb step fin fuel _ a' w' (by simpa using hs) (by omega) h) (step listed a w i hs hlt h0 (fun o' ho' e he hbd => ?_) hI)
    rw [ho] at ho'
    cases ho'
    exact hall e he hbd
theorem unl_all : ∀ n m, n ≤ m → unl (Array.replicate m false) n = n
  | 0, _, _ => rfl
  | n + 1, m, h => by rw [unl, unl_all n m (by omega), if_neg (by simp [show n < m by omega])]
theorem wp_region_inv {id : Nat} {a : Act} {w : World} (I : Array Bool → Act → World → Prop) (hm : P.follows .mixedOrders = true) (hb : Back ops = true)
    (h0 : I (Array.replicate ops.size false) a w.drew)
    (step : ∀ listed a w i, listed.size = ops.size → i < ops.size → listed.getD i true = false → (∀ o, ops[i]? = some o → ∀ e ∈ o.after, Region.binds .any e = true → listed.getD e.on false = true) → I listed a w → wpOp P ops Q i (I (listed.setIfInBounds i true)) a w)
    (fin : ∀ listed a w, listed.size = ops.size → (∀ i, i < ops.size → listed.getD i true = true) → I listed a w → Q .normal a w) : (Code.region id ops true).wp P Q a w :=
  wp_region_any hm (wpAny_inv I hb step fin ops.size _ a _ (by simp) (Nat.le_of_eq (unl_all _ _ (Nat.le_refl _))) h0)
theorem set_fun {listed : Array Bool} {i : Nat} (hi : i < listed.size) : (fun j => (listed.setIfInBounds i true).getD j false) = fun j => if j = i then true else listed.getD j false := by
  funext j
  by_cases h : j = i
  · subst h
    rw [if_pos rfl]
    simp [hi]
  · rw [if_neg h, getD_set_ne false (Ne.symm h)]
/-- the same, what is done being told by a function of numbers -/
theorem wp_region_told {id : Nat} {a : Act} {w : World} (I : Act → (Nat → Bool) → Act → World → Prop) (hm : P.follows .mixedOrders = true) (hb : Back ops = true)
    (h0 : I a (fun _ => false) a w.drew)
    (step : ∀ (L : Nat → Bool) a' w' i o, ops[i]? = some o → L i = false → (∀ e ∈ o.after, Region.binds .any e = true → L e.on = true) → I a L a' w' → wpOp P ops Q i (I a (fun j => if j = i then true else L j)) a' w')
    (fin : ∀ (L : Nat → Bool) a' w', (∀ i, i < ops.size → L i = true) → I a L a' w' → Q .normal a' w') : (Code.region id ops true).wp P Q a w := by
  refine wp_region_inv (fun listed => I a (fun j => listed.getD j false)) hm hb ?_ ?_ ?_
  · have e : (fun j => (Array.replicate ops.size false).getD j false) = fun _ => false := by
      funext j
      by_cases h : j < ops.size <;> simp [h]
    show I a (fun j => (Array.replicate ops.size false).getD j false) a w.drew
    rw [e]
    exact h0
  · intro listed a' w' i hs hi hl hall hI
    have hlt : i < listed.size := by omega
    have := step (fun j => listed.getD j false) a' w' i ops[i] (by simp [hi]) (by simpa [hlt] using hl) (hall _ (by simp [hi])) hI
    rw [← set_fun hlt] at this
    exact this
  · intro listed a' w' hs hall hI
    exact fin _ a' w' (fun i hi => by
      have h := hall i hi
      have hlt : i < listed.size := by omega
      simpa [hlt] using h) hI
/-- a frame, some slots of which are told by f -/
def frm (a0 : Act) (f : Nat → Option Value) : Act := { a0 with tmps := Array.ofFn (n := a0.tmps.size) fun s => (f s).getD a0.tmps[s] }
theorem frm_size (a0 : Act) (f : Nat → Option Value) : (frm a0 f).tmps.size = a0.tmps.size := by unfold frm; simp
theorem frm_get (a0 : Act) (f : Nat → Option Value) (s : Nat) : (frm a0 f).tmps[s]? = if s < a0.tmps.size then some ((f s).getD (a0.tmps[s]?.getD undef)) else none := by
  unfold frm
  by_cases h : s < a0.tmps.size
  · simp [h]
  · simp [h]
theorem frm_put (a0 : Act) (f : Nat → Option Value) (d : Nat) (v : Value) : (frm a0 f).put (some d) v = frm a0 (fun s => if s = d then some v else f s) := by
  have h : (frm a0 f).tmps.setIfInBounds d v = (frm a0 (fun s => if s = d then some v else f s)).tmps := by
    apply Array.ext_getElem?
    intro s
    rw [Array.getElem?_setIfInBounds, frm_get, frm_get, frm_size]
    by_cases hd : s = d
    · subst hd
      simp
    · rw [if_neg (Ne.symm hd)]
      simp [hd]
  show ({ frm a0 f with tmps := _ } : Act) = _
  rw [h]
  rfl
theorem frm_eval {a0 : Act} {f : Nat → Option Value} {s : Nat} {v : Value} (h : f s = some v) (hs : s < a0.tmps.size) : (frm a0 f).eval (.tmp s) = v := by
  show (frm a0 f).tmps.getD s undef = v
  rw [Array.getD_eq_getD_getElem?, frm_get, if_pos hs, h]
  rfl
theorem frm_old {a0 : Act} {f : Nat → Option Value} {s : Nat} (h : f s = none) : (frm a0 f).eval (.tmp s) = a0.eval (.tmp s) := by
  show (frm a0 f).tmps.getD s undef = a0.tmps.getD s undef
  rw [Array.getD_eq_getD_getElem?, Array.getD_eq_getD_getElem?, frm_get, h]
  by_cases hs : s < a0.tmps.size
  · simp [hs]
  · simp [hs]
theorem frm_self {a0 : Act} {f : Nat → Option Value} (h : ∀ s v, f s = some v → a0.tmps[s]? = some v) : frm a0 f = a0 := by
  have e : (frm a0 f).tmps = a0.tmps := by
    apply Array.ext_getElem?
    intro s
    rw [frm_get]
    by_cases hs : s < a0.tmps.size
    · rw [if_pos hs]
      cases hf : f s with
      | none => simp [hs]
      | some v => rw [h s v hf]; rfl
    · simp [hs]
  show ({ a0 with tmps := (frm a0 f).tmps } : Act) = a0
  rw [e]
theorem pre_of {o : Oper} {L : Nat → Bool} (h : ∀ e ∈ o.after, Region.binds .any e = true → L e.on = true) : ∀ k, (o.after.toList.any fun e => e.on == k && Region.binds .any e) = true → L k = true := by
  intro k hk
  obtain ⟨e, he, h2⟩ := List.any_eq_true.1 hk
  simp only [Bool.and_eq_true, beq_iff_eq] at h2
  rw [← h2.1]
  exact h e (by simpa using he) h2.2
theorem wpOp_of {i : Nat} {o : Oper} {a : Act} {w : World} {K : Act → World → Prop} (ho : ops[i]? = some o) (hg : o.guard = none) (h : o.wp P a w K Q) : wpOp P ops Q i K a w := by
  unfold wpOp
  rw [ho]
  have hw : Region.wanted o (yielded ops a.tmps) = true := by simp [Region.wanted, hg]
  show if Region.wanted o (yielded ops a.tmps) = true then _ else _
  rw [if_pos hw]
  exact .inl h
end
end Go.Proofs.YtnmojmmgkipjcaaGreatDoor
