/- A region that draws its order: as XLinH, finer: each reader of memory that was taken ahead asks for its relation only until an operation comes that waits for it. -/
import Derived.Test.YtlbpmboknmbcgaaLinH
set_option linter.unusedVariables false
set_option linter.unusedSimpArgs false
namespace Go.Proofs.Ytlbpmboknmbcgaa
open Go.RowKit

/-- a tree of orders: taken ahead in any world, in those of the wider or of the narrower relation; the one that may come up (C: what it waits for; h, c: who of those taken ahead by the narrower, the wider relation it does not wait for); one of two -/
inductive ON where
  | nil
  | free (i : Nat) (t : ON)
  | cold (i : Nat) (t : ON)
  | hot (i : Nat) (t : ON)
  | op (i : Nat) (C : List (Nat × Nat)) (h c : List Nat) (t : ON)
  | two (i : Nat) (C : List (Nat × Nat)) (h c : List Nat) (t : ON) (j : Nat) (C' : List (Nat × Nat)) (h' c' : List Nat) (s : ON)
def leftB (C : List (Nat × Nat)) (h h' : List Nat) : Bool := h.all fun k => h'.contains k || C.any fun p => p.1 == k
def okON (ops : Array Oper) : ON → List Nat → List Nat → Nat → Array Bool → Bool
  | .nil, _, _, 0, listed => (Region.ready .any ops listed).isEmpty
  | .free i t, h, c, n + 1, listed => (Region.ready .any ops listed).contains i && Region.free .any ops listed i && okON ops t h c n (listed.setIfInBounds i true)
  | .cold i t, h, c, n + 1, listed => (Region.ready .any ops listed).contains i && Region.free .any ops listed i && okON ops t h (i :: c) n (listed.setIfInBounds i true)
  | .hot i t, h, c, n + 1, listed => (Region.ready .any ops listed).contains i && Region.free .any ops listed i && okON ops t (i :: h) c n (listed.setIfInBounds i true)
  | .op i C h' c' t, h, c, n + 1, listed => Region.ready .any ops listed == [i] && chainB ops [i] C && leftB C h h' && leftB C c c' && okON ops t h' c' n (listed.setIfInBounds i true)
  | .two i C h' c' t j C2 h2 c2 s, h, c, n + 1, listed => Region.ready .any ops listed == [i, j] && chainB ops [i] C && leftB C h h' && leftB C c c' && okON ops t h' c' n (listed.setIfInBounds i true)
      && chainB ops [j] C2 && leftB C2 h h2 && leftB C2 c c2 && okON ops s h2 c2 n (listed.setIfInBounds j true)
  | _, _, _, _, _ => false
/-- j comes up behind i alone -/
def Waited (ops : Array Oper) (j i : Nat) : Prop := ∀ listed, Shut ops listed → j ∈ Region.ready .any ops listed → listed.getD i false = true
theorem waited_of {ops : Array Oper} {j k : Nat} {C : List (Nat × Nat)} (hc : chainB ops [j] C = true) (hk : (C.any fun p => p.1 == k) = true) : Waited ops j k := by
  intro listed hsh hj
  simp only [List.any_eq_true, beq_iff_eq] at hk
  obtain ⟨p, hp, rfl⟩ := hk
  exact chainB_listed hsh hj C [j] hc (fun s hs => .inl (by simpa using hs)) p hp
abbrev Pend := List (Nat × (World → Prop))
section
variable {P : Program} {ops : Array Oper} {Q : Exit → Act → World → Prop}
/-- in whatever order: each condition of L holds until an operation comes that waits for its reader -/
def anyN (P : Program) (ops : Array Oper) (Q : Exit → Act → World → Prop) : Pend → Nat → Array Bool → Act → World → Prop
  | _, 0, listed, a, w => Region.ready .any ops listed = [] ∧ Q .normal a w
  | L, fuel + 1, listed, a, w => (Region.ready .any ops listed = [] → Q .normal a w) ∧
    ∀ j ∈ Region.ready .any ops listed, ∃ L' : Pend, (∀ p ∈ L, p ∈ L' ∨ Waited ops j p.1) ∧ wpOp P ops Q j (fun a' w' => (∀ p ∈ L', p.2 w') ∧ anyN P ops Q L' fuel (listed.setIfInBounds j true) a' w') a w
theorem any_of_anyN : ∀ (fuel : Nat) (L : Pend) (listed : Array Bool) (a : Act) (w : World), anyN P ops Q L fuel listed a w → wpAny P .any ops Q fuel listed a w
  | 0, _, _, _, _, h => h
  | fuel + 1, _, _, _, _, h => ⟨h.1, fun j hj => by
      obtain ⟨L', _, h2⟩ := h.2 j hj
      exact wpOp_mono (fun a' w' h' => any_of_anyN fuel L' _ a' w' h'.2) h2⟩
theorem anyN_weaken : ∀ (fuel : Nat) (L L2 : Pend) (listed : Array Bool) (a : Act) (w : World), (∀ p ∈ L, (∀ w, p.2 w) ∨ ∃ q ∈ L2, q.1 = p.1 ∧ ∀ w, q.2 w → p.2 w) → anyN P ops Q L2 fuel listed a w → anyN P ops Q L fuel listed a w
  | 0, _, _, _, _, _, _, h => h
  | fuel + 1, L, L2, listed, a, w, hL, h => ⟨h.1, fun j hj => by
      obtain ⟨L2', h1, h2⟩ := h.2 j hj
      classical
      refine ⟨L.filter (fun p => decide (¬ Waited ops j p.1)), fun p hp => ?_, ?_⟩
      · by_cases hw : Waited ops j p.1
        · exact .inr hw
        · exact .inl (List.mem_filter.2 ⟨hp, by simpa using hw⟩)
      · have key : ∀ p ∈ L.filter (fun p => decide (¬ Waited ops j p.1)), (∀ w, p.2 w) ∨ ∃ q ∈ L2', q.1 = p.1 ∧ ∀ w, q.2 w → p.2 w := by
          intro p hp
          obtain ⟨hp, hnw⟩ := List.mem_filter.1 hp
          have hnw : ¬ Waited ops j p.1 := by simpa using hnw
          rcases hL p hp with h | ⟨q, hq, e, hi⟩
          · exact .inl h
          · rcases h1 q hq with h | h
            · exact .inr ⟨q, h, e, hi⟩
            · exact absurd (e ▸ h) hnw
        refine wpOp_mono (fun a' w' h' => ⟨fun p hp => ?_, anyN_weaken fuel _ L2' _ a' w' key h'.2⟩) h2
        rcases key p hp with h | ⟨q, hq, _, hi⟩
        · exact h w'
        · exact hi _ (h'.1 q hq)⟩
theorem anyN_take {i : Nat} {o : Oper} {v : Value} {S : World → Prop} (hi : ops[i]? = some o) (hs : Region.noSelect ops = true) (hQ : ∀ c a w, Q (.panic c) (a.put o.dst v) w → Q (.panic c) a w) :
    ∀ (fuel : Nat) (L : Pend) (listed : Array Bool) (a : Act) (w : World), Shut ops listed → Region.free .any ops listed i = true → i ∈ Region.ready .any ops listed → YieldsIf P ops S o v a → S w → (∀ p ∈ L, p.2 w) →
      anyN P ops Q ((i, S) :: L) fuel (listed.setIfInBounds i true) (a.put o.dst v) w → anyN P ops Q L (fuel + 1) listed a w := by
  intro fuel
  induction fuel with
  | zero =>
    intro L listed a w _ _ hr hy hS hL H
    refine ⟨fun h => (by rw [h] at hr; cases hr), fun j hj => ?_⟩
    rcases Nat.decEq j i with hji | hji
    · exact absurd (ready_mono hj hji) (by rw [H.1]; simp)
    · subst hji
      exact ⟨L, fun p hp => .inl hp, hy.wpOp hi hS ⟨hL, H⟩⟩
  | succ fuel ih =>
    intro L listed a w hsh hf hr hy hS hL H
    refine ⟨fun h => (by rw [h] at hr; cases hr), fun j hj => ?_⟩
    rcases Nat.decEq j i with hji | hji
    · obtain ⟨hjun, oj, hoj, hall⟩ := mem_ready.1 hj
      have hno : ∀ e ∈ oj.after, Region.binds .any e = true → e.on ≠ i := by
        intro e he hb heq
        have q1 := hall e he hb
        have q0 := (mem_ready.1 hr).1
        rw [heq] at q1
        rcases Nat.lt_or_ge i listed.size with h' | h'
        · simp [h'] at q0 q1; rw [q0] at q1; cases q1
        · simp [Array.getElem?_eq_none h'] at q1
      have hap := Region.free_spec hi hf j oj hoj hji hjun hno
      have hsel := Region.noSelect_spec hs
      obtain ⟨L', hL', H2⟩ := H.2 j (ready_mono hj hji)
      have hstep := wpOp_putIf hoj hap (fun cs b => hsel i o cs b hi) (fun cs b => hsel j oj cs b hoj) hQ hy H2
      have hf2 : Region.free .any ops (listed.setIfInBounds j true) i = true := by
        unfold Region.free at hf ⊢
        rw [hi] at hf ⊢
        simp only [List.all_eq_true, List.mem_range, Bool.or_eq_true] at hf ⊢
        intro k hk
        rcases hf k hk with (q | q) | q
        · exact .inl (.inl q)
        · by_cases hkj : j = k
          · subst hkj
            rw [hjun] at q
            cases q
          · exact .inl (.inr (by rw [getD_set_ne true hkj]; exact q))
        · exact .inr q
      have hiL : (i, S) ∈ L' := by
        rcases hL' (i, S) List.mem_cons_self with h | h
        · exact h
        · have := h listed hsh hj
          have q0 := (mem_ready.1 hr).1
          rcases Nat.lt_or_ge i listed.size with h' | h'
          · simp [h'] at q0 this; rw [q0] at this; cases this
          · simp [Array.getElem?_eq_none h'] at this
      refine ⟨L', fun p hp => hL' p (List.mem_cons_of_mem _ hp), wpOp_mono (fun a' w' h3 => ?_) hstep⟩
      refine ⟨h3.2.1, ih L' _ a' w' (hsh.ready hj) hf2 (ready_mono hr (Ne.symm hji)) h3.1 (h3.2.1 _ hiL) h3.2.1 ?_⟩
      rw [Array.setIfInBounds_comm _ _ hji]
      refine anyN_weaken _ _ L' _ _ _ (fun p hp => .inr ?_) h3.2.2
      rcases List.mem_cons.1 hp with rfl | hp
      · exact ⟨_, hiL, rfl, fun _ h => h⟩
      · exact ⟨p, hp, rfl, fun _ h => h⟩
    · subst hji
      exact ⟨L, fun p hp => .inl hp, hy.wpOp hi hS ⟨hL, anyN_weaken _ _ _ _ _ _ (fun p hp => .inr ⟨p, List.mem_cons_of_mem _ hp, rfl, fun _ h => h⟩) H⟩⟩
end
/-- what is to be shown behind an operation -/
def need (R0 R1 : World → World → Prop) : List Nat → List Nat → World → World → Prop
  | _ :: _, _ => R1
  | [], _ :: _ => R0
  | [], [] => fun _ _ => True
section
variable (P : Program) (R0 R1 : World → World → Prop) (ops : Array Oper) (Q : Exit → Act → World → Prop)
def LinN : ON → Act → World → Prop
  | .nil, a, w => Q .normal a w
  | .free i t, a, w => ∃ o v, ops[i]? = some o ∧ YieldsIf P ops (fun _ => True) o v a ∧ LinN t (a.put o.dst v) w
  | .cold i t, a, w => ∃ o v, ops[i]? = some o ∧ YieldsIf P ops (fun w' => R0 w w') o v a ∧ LinN t (a.put o.dst v) w
  | .hot i t, a, w => ∃ o v, ops[i]? = some o ∧ YieldsIf P ops (fun w' => R1 w w') o v a ∧ LinN t (a.put o.dst v) w
  | .op i _ h c t, a, w => wpOp P ops Q i (fun a' w' => need R0 R1 h c w w' ∧ LinN t a' w') a w
  | .two i _ h c t j _ h' c' s, a, w => wpOp P ops Q i (fun a' w' => need R0 R1 h c w w' ∧ LinN t a' w') a w ∧ wpOp P ops Q j (fun a' w' => need R0 R1 h' c' w w' ∧ LinN s a' w') a w
end
section
variable {P : Program} {R0 R1 : World → World → Prop} {ops : Array Oper} {Q : Exit → Act → World → Prop}
def pend (R0 R1 : World → World → Prop) (h c : List Nat) (w : World) : Pend := (h.map fun i => (i, fun w' => R1 w w')) ++ (c.map fun i => (i, fun w' => R0 w w'))
theorem mem_pend {h c : List Nat} {w : World} {p : Nat × (World → Prop)} (hp : p ∈ pend R0 R1 h c w) : (p.1 ∈ h ∧ p.2 = fun w' => R1 w w') ∨ (p.1 ∈ c ∧ p.2 = fun w' => R0 w w') := by
  rcases List.mem_append.1 hp with h | h
  · obtain ⟨i, hi, rfl⟩ := List.mem_map.1 h; exact .inl ⟨hi, rfl⟩
  · obtain ⟨i, hi, rfl⟩ := List.mem_map.1 h; exact .inr ⟨hi, rfl⟩
theorem pend_hot {h c : List Nat} {w : World} {i : Nat} (hi : i ∈ h) : (i, fun w' => R1 w w') ∈ pend R0 R1 h c w := List.mem_append_left _ (List.mem_map.2 ⟨i, hi, rfl⟩)
theorem pend_cold {h c : List Nat} {w : World} {i : Nat} (hi : i ∈ c) : (i, fun w' => R0 w w') ∈ pend R0 R1 h c w := List.mem_append_right _ (List.mem_map.2 ⟨i, hi, rfl⟩)
theorem pend_at (H0 : Way R0) (H1 : Way R1) (h c : List Nat) (w : World) : ∀ p ∈ pend R0 R1 h c w, p.2 w := by
  intro p hp
  rcases mem_pend hp with ⟨_, e⟩ | ⟨_, e⟩
  · rw [e]; exact H1.refl w
  · rw [e]; exact H0.refl w
theorem pend_step (H0 : Way R0) (H1 : Way R1) (hR : ∀ w w', R1 w w' → R0 w w') {h c : List Nat} {w w' : World} (hn : need R0 R1 h c w w') :
    (∀ p ∈ pend R0 R1 h c w, p.2 w') ∧ (∀ p ∈ pend R0 R1 h c w, (∀ w, p.2 w) ∨ ∃ q ∈ pend R0 R1 h c w', q.1 = p.1 ∧ ∀ w, q.2 w → p.2 w) := by
  have hh : ∀ i ∈ h, R1 w w' := by
    intro i hi
    cases h with
    | nil => cases hi
    | cons x h => exact hn
  have hc : ∀ i ∈ c, R0 w w' := by
    intro i hi
    cases h with
    | cons x h => exact hR _ _ hn
    | nil => cases c with
      | nil => cases hi
      | cons x c => exact hn
  constructor
  · intro p hp
    rcases mem_pend hp with ⟨m, e⟩ | ⟨m, e⟩
    · rw [e]; exact hh _ m
    · rw [e]; exact hc _ m
  · intro p hp
    rcases mem_pend hp with ⟨m, e⟩ | ⟨m, e⟩
    · exact .inr ⟨_, pend_hot m, rfl, fun v hv => by rw [e]; exact H1.trans (hh _ m) hv⟩
    · exact .inr ⟨_, pend_cold m, rfl, fun v hv => by rw [e]; exact H0.trans (hc _ m) hv⟩
theorem pend_left {j : Nat} {C : List (Nat × Nat)} {h c h' c' : List Nat} {w : World} (hC : chainB ops [j] C = true) (h1 : leftB C h h' = true) (h2 : leftB C c c' = true) :
    ∀ p ∈ pend R0 R1 h c w, p ∈ pend R0 R1 h' c' w ∨ Waited ops j p.1 := by
  intro p hp
  rcases mem_pend hp with ⟨m, e⟩ | ⟨m, e⟩
  · have := List.all_eq_true.1 h1 _ m
    simp only [Bool.or_eq_true, List.contains_iff_mem] at this
    rcases this with h | h
    · exact .inl (by rw [show p = (p.1, fun w' => R1 w w') from Prod.ext rfl e]; exact pend_hot h)
    · exact .inr (waited_of hC h)
  · have := List.all_eq_true.1 h2 _ m
    simp only [Bool.or_eq_true, List.contains_iff_mem] at this
    rcases this with h | h
    · exact .inl (by rw [show p = (p.1, fun w' => R0 w w') from Prod.ext rfl e]; exact pend_cold h)
    · exact .inr (waited_of hC h)
theorem anyN_of_lin (H0 : Way R0) (H1 : Way R1) (hR : ∀ w w', R1 w w' → R0 w w') (hs : Region.noSelect ops = true) (hQ : ∀ c a d v w, Q (.panic c) (Act.put a (some d) v) w → Q (.panic c) a w) :
    ∀ (σ : ON) (h c : List Nat) (n : Nat) (listed : Array Bool) (a : Act) (w : World), Shut ops listed → okON ops σ h c n listed = true → LinN P R0 R1 ops Q σ a w → anyN P ops Q (pend R0 R1 h c w) n listed a w
  | .nil, h, c, 0, listed, a, w, _, ho, H => ⟨by simpa [okON] using ho, H⟩
  | .free i t, h, c, n + 1, listed, a, w, hsh, ho, H => by
    simp only [okON, Bool.and_eq_true] at ho
    obtain ⟨o, v, hi, hy, hr⟩ := H
    have hrd : i ∈ Region.ready .any ops listed := by simpa using ho.1.1
    have hq : ∀ cc a w, Q (.panic cc) (Act.put a o.dst v) w → Q (.panic cc) a w := fun cc a w => by
      cases o.dst with
      | none => exact fun h => h
      | some d => exact hQ cc a d v w
    refine anyN_take (S := fun _ => True) hi hs hq _ _ _ _ _ hsh ho.1.2 hrd hy trivial (pend_at H0 H1 h c w) ?_
    refine anyN_weaken _ _ (pend R0 R1 h c w) _ _ _ (fun p hp => ?_) (anyN_of_lin H0 H1 hR hs hQ t h c n _ _ _ (hsh.ready hrd) ho.2 hr)
    rcases List.mem_cons.1 hp with rfl | hp
    · exact .inl fun _ => trivial
    · exact .inr ⟨p, hp, rfl, fun _ h => h⟩
  | .cold i t, h, c, n + 1, listed, a, w, hsh, ho, H => by
    simp only [okON, Bool.and_eq_true] at ho
    obtain ⟨o, v, hi, hy, hr⟩ := H
    have hrd : i ∈ Region.ready .any ops listed := by simpa using ho.1.1
    have hq : ∀ cc a w, Q (.panic cc) (Act.put a o.dst v) w → Q (.panic cc) a w := fun cc a w => by
      cases o.dst with
      | none => exact fun h => h
      | some d => exact hQ cc a d v w
    refine anyN_take (S := fun w' => R0 w w') hi hs hq _ _ _ _ _ hsh ho.1.2 hrd hy (H0.refl w) (pend_at H0 H1 h c w) ?_
    refine anyN_weaken _ _ (pend R0 R1 h (i :: c) w) _ _ _ (fun p hp => .inr ?_) (anyN_of_lin H0 H1 hR hs hQ t h (i :: c) n _ _ _ (hsh.ready hrd) ho.2 hr)
    rcases List.mem_cons.1 hp with rfl | hp
    · exact ⟨_, pend_cold List.mem_cons_self, rfl, fun _ h => h⟩
    · rcases mem_pend hp with ⟨m, e⟩ | ⟨m, e⟩
      · exact ⟨_, pend_hot m, rfl, fun _ h => by rw [e]; exact h⟩
      · exact ⟨_, pend_cold (List.mem_cons_of_mem _ m), rfl, fun _ h => by rw [e]; exact h⟩
  | .hot i t, h, c, n + 1, listed, a, w, hsh, ho, H => by
    simp only [okON, Bool.and_eq_true] at ho
    obtain ⟨o, v, hi, hy, hr⟩ := H
    have hrd : i ∈ Region.ready .any ops listed := by simpa using ho.1.1
    have hq : ∀ cc a w, Q (.panic cc) (Act.put a o.dst v) w → Q (.panic cc) a w := fun cc a w => by
      cases o.dst with
      | none => exact fun h => h
      | some d => exact hQ cc a d v w
    refine anyN_take (S := fun w' => R1 w w') hi hs hq _ _ _ _ _ hsh ho.1.2 hrd hy (H1.refl w) (pend_at H0 H1 h c w) ?_
    refine anyN_weaken _ _ (pend R0 R1 (i :: h) c w) _ _ _ (fun p hp => .inr ?_) (anyN_of_lin H0 H1 hR hs hQ t (i :: h) c n _ _ _ (hsh.ready hrd) ho.2 hr)
    rcases List.mem_cons.1 hp with rfl | hp
    · exact ⟨_, pend_hot List.mem_cons_self, rfl, fun _ h => h⟩
    · rcases mem_pend hp with ⟨m, e⟩ | ⟨m, e⟩
      · exact ⟨_, pend_hot (List.mem_cons_of_mem _ m), rfl, fun _ h => by rw [e]; exact h⟩
      · exact ⟨_, pend_cold m, rfl, fun _ h => by rw [e]; exact h⟩
  | .op i C h' c' t, h, c, n + 1, listed, a, w, hsh, ho, H => by
    simp only [okON, Bool.and_eq_true, beq_iff_eq] at ho
    obtain ⟨⟨⟨⟨o1, o2⟩, o3⟩, o4⟩, o5⟩ := ho
    refine ⟨fun h0 => (by rw [o1] at h0; cases h0), fun j hj => ?_⟩
    have hj' := hj
    rw [o1] at hj
    simp only [List.mem_singleton] at hj
    subst hj
    refine ⟨pend R0 R1 h' c' w, pend_left o2 o3 o4, wpOp_mono (fun a' w' h' => ?_) H⟩
    obtain ⟨s1, s2⟩ := pend_step H0 H1 hR h'.1
    exact ⟨s1, anyN_weaken _ _ _ _ _ _ s2 (anyN_of_lin H0 H1 hR hs hQ t _ _ n _ _ _ (hsh.ready hj') o5 h'.2)⟩
  | .two i C h1 c1 t k C2 h2 c2 s, h, c, n + 1, listed, a, w, hsh, ho, H => by
    simp only [okON, Bool.and_eq_true, beq_iff_eq] at ho
    obtain ⟨⟨⟨⟨⟨⟨⟨⟨o1, o2⟩, o3⟩, o4⟩, o5⟩, o6⟩, o7⟩, o8⟩, o9⟩ := ho
    refine ⟨fun h0 => (by rw [o1] at h0; cases h0), fun j hj => ?_⟩
    have hj' := hj
    rw [o1] at hj
    simp only [List.mem_cons, List.not_mem_nil, or_false] at hj
    rcases hj with rfl | rfl
    · refine ⟨pend R0 R1 h1 c1 w, pend_left o2 o3 o4, wpOp_mono (fun a' w' h' => ?_) H.1⟩
      obtain ⟨s1, s2⟩ := pend_step H0 H1 hR h'.1
      exact ⟨s1, anyN_weaken _ _ _ _ _ _ s2 (anyN_of_lin H0 H1 hR hs hQ t _ _ n _ _ _ (hsh.ready hj') o5 h'.2)⟩
    · refine ⟨pend R0 R1 h2 c2 w, pend_left o6 o7 o8, wpOp_mono (fun a' w' h' => ?_) H.2⟩
      obtain ⟨s1, s2⟩ := pend_step H0 H1 hR h'.1
      exact ⟨s1, anyN_weaken _ _ _ _ _ _ s2 (anyN_of_lin H0 H1 hR hs hQ s _ _ n _ _ _ (hsh.ready hj') o9 h'.2)⟩
  | .nil, _, _, _ + 1, _, _, _, _, ho, _ => by simp [okON] at ho
  | .free _ _, _, _, 0, _, _, _, _, ho, _ => by simp [okON] at ho
  | .cold _ _, _, _, 0, _, _, _, _, ho, _ => by simp [okON] at ho
  | .hot _ _, _, _, 0, _, _, _, _, ho, _ => by simp [okON] at ho
  | .op _ _ _ _ _, _, _, 0, _, _, _, _, ho, _ => by simp [okON] at ho
  | .two _ _ _ _ _ _ _ _ _ _, _, _, 0, _, _, _, _, ho, _ => by simp [okON] at ho
theorem wp_region_linN (R0 R1 : World → World → Prop) (H0 : Way R0) (H1 : Way R1) (hR : ∀ w w', R1 w w' → R0 w w') (σ : ON) {id : Nat} {a : Act} {w : World} (hm : P.follows .mixedOrders = true) (hs : Region.noSelect ops = true)
    (hok : okON ops σ [] [] ops.size (Array.replicate ops.size false) = true) (hQ : ∀ c a d v w, Q (.panic c) (Act.put a (some d) v) w → Q (.panic c) a w)
    (h : LinN P R0 R1 ops Q σ a w.drew) : (Code.region id ops true).wp P Q a w :=
  wp_region_any hm (any_of_anyN _ _ _ _ _ (anyN_of_lin H0 H1 hR hs hQ σ [] [] _ _ _ _ (shut_none ops ops.size) hok h))
theorem linN_free {i : Nat} {t : ON} {a : Act} {w : World} {o : Oper} {v : Value} (hi : ops[i]? = some o) (hw : Region.wanted o (yielded ops a.tmps) = true)
    (hy : ∀ w', (execOp a.eval o).run P w' = .ok (.value v) w') (h : LinN P R0 R1 ops Q t (a.put o.dst v) w) : LinN P R0 R1 ops Q (.free i t) a w :=
  ⟨o, v, hi, .inl ⟨hw, fun w' _ => hy w'⟩, h⟩
theorem linN_freeSkip {i : Nat} {t : ON} {a : Act} {w : World} {o : Oper} (hi : ops[i]? = some o) (hw : Region.wanted o (yielded ops a.tmps) = false)
    (h : LinN P R0 R1 ops Q t (a.put o.dst undef) w) : LinN P R0 R1 ops Q (.free i t) a w :=
  ⟨o, undef, hi, .inr ⟨hw, rfl⟩, h⟩
theorem linN_cold {i : Nat} {t : ON} {a : Act} {w : World} {o : Oper} {v : Value} (hi : ops[i]? = some o) (hw : Region.wanted o (yielded ops a.tmps) = true)
    (hy : ∀ w', R0 w w' → (execOp a.eval o).run P w' = .ok (.value v) w') (h : LinN P R0 R1 ops Q t (a.put o.dst v) w) : LinN P R0 R1 ops Q (.cold i t) a w :=
  ⟨o, v, hi, .inl ⟨hw, hy⟩, h⟩
theorem linN_coldSkip {i : Nat} {t : ON} {a : Act} {w : World} {o : Oper} (hi : ops[i]? = some o) (hw : Region.wanted o (yielded ops a.tmps) = false)
    (h : LinN P R0 R1 ops Q t (a.put o.dst undef) w) : LinN P R0 R1 ops Q (.cold i t) a w :=
  ⟨o, undef, hi, .inr ⟨hw, rfl⟩, h⟩
theorem linN_hot {i : Nat} {t : ON} {a : Act} {w : World} {o : Oper} {v : Value} (hi : ops[i]? = some o) (hw : Region.wanted o (yielded ops a.tmps) = true)
    (hy : ∀ w', R1 w w' → (execOp a.eval o).run P w' = .ok (.value v) w') (h : LinN P R0 R1 ops Q t (a.put o.dst v) w) : LinN P R0 R1 ops Q (.hot i t) a w :=
  ⟨o, v, hi, .inl ⟨hw, hy⟩, h⟩
theorem linN_hotSkip {i : Nat} {t : ON} {a : Act} {w : World} {o : Oper} (hi : ops[i]? = some o) (hw : Region.wanted o (yielded ops a.tmps) = false)
    (h : LinN P R0 R1 ops Q t (a.put o.dst undef) w) : LinN P R0 R1 ops Q (.hot i t) a w :=
  ⟨o, undef, hi, .inr ⟨hw, rfl⟩, h⟩
theorem opN {N : World → World → Prop} {i : Nat} {t : ON} {a : Act} {w : World} {o : Oper} (hi : ops[i]? = some o) (hw : Region.wanted o (yielded ops a.tmps) = true)
    (h : ∀ K : Act → World → Prop, (∀ a' w', N w w' → LinN P R0 R1 ops Q t a' w' → K a' w') → o.wp P a w K Q) : wpOp P ops Q i (fun a' w' => N w w' ∧ LinN P R0 R1 ops Q t a' w') a w := by
  unfold wpOp
  simp only [hi, hw, if_true]
  exact .inl (h _ fun a' w' h1 h2 => ⟨h1, h2⟩)
theorem passN {N : World → World → Prop} {i : Nat} {t : ON} {a : Act} {w : World} {o : Oper} (hi : ops[i]? = some o) (hw : Region.wanted o (yielded ops a.tmps) = false) (hn : N w w)
    (h : LinN P R0 R1 ops Q t (a.put o.dst undef) w) : wpOp P ops Q i (fun a' w' => N w w' ∧ LinN P R0 R1 ops Q t a' w') a w := by
  unfold wpOp
  simp only [hi, hw, Bool.false_eq_true, if_false]
  exact ⟨hn, h⟩
theorem linN_op {i : Nat} {C : List (Nat × Nat)} {h' c' : List Nat} {t : ON} {a : Act} {w : World} {o : Oper} (hi : ops[i]? = some o) (hw : Region.wanted o (yielded ops a.tmps) = true)
    (h : ∀ K : Act → World → Prop, (∀ a' w', need R0 R1 h' c' w w' → LinN P R0 R1 ops Q t a' w' → K a' w') → o.wp P a w K Q) : LinN P R0 R1 ops Q (.op i C h' c' t) a w := opN (N := need R0 R1 h' c') hi hw h
theorem linN_pass (H0 : Way R0) (H1 : Way R1) {i : Nat} {C : List (Nat × Nat)} {h' c' : List Nat} {t : ON} {a : Act} {w : World} {o : Oper} (hi : ops[i]? = some o) (hw : Region.wanted o (yielded ops a.tmps) = false)
    (h : LinN P R0 R1 ops Q t (a.put o.dst undef) w) : LinN P R0 R1 ops Q (.op i C h' c' t) a w := by
  refine passN (N := need R0 R1 h' c') hi hw ?_ h
  cases h' with
  | cons => exact H1.refl w
  | nil => cases c' with
    | cons => exact H0.refl w
    | nil => trivial
theorem linN_two {i j : Nat} {C C' : List (Nat × Nat)} {h1 c1 h2 c2 : List Nat} {t s : ON} {a : Act} {w : World} (h : wpOp P ops Q i (fun a' w' => need R0 R1 h1 c1 w w' ∧ LinN P R0 R1 ops Q t a' w') a w)
    (h' : wpOp P ops Q j (fun a' w' => need R0 R1 h2 c2 w w' ∧ LinN P R0 R1 ops Q s a' w') a w) : LinN P R0 R1 ops Q (.two i C h1 c1 t j C' h2 c2 s) a w := ⟨h, h'⟩
theorem linN_end {a : Act} {w : World} (h : Q .normal a w) : LinN P R0 R1 ops Q .nil a w := h
end
theorem run_loadO {P : Program} {a : Act} {o : Oper} {ty : TypeId} {x : Operand} {ad : Addr} {vs : List Value} {w' : World} (ho : o.op = .load ty x) (hx : a.eval x = .pointer (some ad)) (ha : (isAgg ty).run P w' = .ok true w') (hsz : (P.info? ty).map (·.size) = some vs.length)
    (hc : ∀ j v, vs[j]? = some v → w'.cell? (ad.add j) = some v) : (execOp a.eval o).run P w' = .ok (.value (.agg vs.toArray)) w' := by
  have hl := run_loadR ha hsz hc
  unfold execOp
  simp only [ho, hx, Instr.loadAt, Instr.sureAddr, Sem.run_bind, Sem.run_pure, Result.andThen_ok, hl]
/-- below block B all but block g is as it was -/
def But (B g : Nat) (w w' : World) : Prop := ∀ k, k ≠ g → k < B → w'.heap[k]? = w.heap[k]?
theorem wayBut (B g : Nat) : Way (But B g) := ⟨fun _ _ _ _ => rfl, fun h1 h2 k hk hl => (h2 k hk hl).trans (h1 k hk hl), fun _ _ _ _ => rfl⟩
theorem But.row {B g k : Nat} {w w' : World} {c : Array Value} {T : TypeId} (h : But B g w w') (hr : Row w k c T) (hk : k ≠ g) (hl : k < B) : Row w' k c T := (h k hk hl).trans hr
theorem But.cell {B g : Nat} {w w' : World} {a : Addr} {v : Value} (h : But B g w w') (hk : a.block ≠ g) (hl : a.block < B) (hc : w.cell? a = some v) : w'.cell? a = some v := by
  unfold World.cell? at hc ⊢
  rw [h _ hk hl]
  exact hc
theorem but_set (B g j : Nat) (v : Value) (w : World) : But B g w (w.setCell ⟨g, j, none⟩ v) := fun k hk _ => heap_setCell_other _ _ _ _ hk
theorem but_upd {B g : Nat} {c : Array Value} {t : TypeId} {w w' : World} (h : Upd g c t w w') : But B g w w' := fun k hk _ => h.rest k hk
theorem but_below {B g : Nat} {w w' : World} (h : Below B w w') : But B g w w' := fun k _ hl => h.block k hl
theorem but_drew {B g : Nat} {w w' : World} (h : But B g w w') : But B g w w'.drew := h
end Go.Proofs.Ytlbpmboknmbcgaa
