/- A region that draws its order: as XLinT, and behind an operation that waits for all that came ahead of it the relation begins anew: stores may turn what the region has read. -/
import Derived.Test.YtlbpmboknmbcgaaLinG
set_option linter.unusedVariables false
set_option linter.unusedSimpArgs false
namespace Go.Proofs.Ytlbpmboknmbcgaa
open Go.RowKit

/-- does operation s wait for operation c? -/
def depB (ops : Array Oper) (s c : Nat) : Bool := match ops[s]? with
  | some o => o.after.any fun e => Region.binds .any e && e.on == c
  | none => false
/-- pairs (c, s): c is waited for by s, which stands in 'seen' or ahead in the row -/
def chainB (ops : Array Oper) : List Nat → List (Nat × Nat) → Bool
  | _, [] => true
  | seen, (c, s) :: rest => seen.contains s && depB ops s c && chainB ops (c :: seen) rest
def allB (ops : Array Oper) (listed : Array Bool) (j : Nat) (C : List (Nat × Nat)) : Bool :=
  chainB ops [j] C && (List.range ops.size).all fun k => !(listed.getD k false) || C.any fun p => p.1 == k
theorem depB_listed {ops : Array Oper} {listed : Array Bool} {s c j : Nat} (h : Shut ops listed) (hj : j ∈ Region.ready .any ops listed) (hd : depB ops s c = true) (hs : s = j ∨ listed.getD s false = true) : listed.getD c false = true := by
  unfold depB at hd
  cases ho : ops[s]? with
  | none => rw [ho] at hd; cases hd
  | some o =>
    rw [ho] at hd
    simp only [Array.any_eq_true', Bool.and_eq_true, beq_iff_eq] at hd
    obtain ⟨e, he, hb, rfl⟩ := hd
    rcases hs with rfl | hs
    · obtain ⟨_, o', ho', hall⟩ := mem_ready.1 hj
      rw [ho] at ho'
      cases ho'
      exact hall e he hb
    · exact h s o ho hs e he hb
theorem chainB_listed {ops : Array Oper} {listed : Array Bool} {j : Nat} (h : Shut ops listed) (hj : j ∈ Region.ready .any ops listed) : ∀ (C : List (Nat × Nat)) (seen : List Nat), chainB ops seen C = true → (∀ s ∈ seen, s = j ∨ listed.getD s false = true) → ∀ p ∈ C, listed.getD p.1 false = true
  | [], _, _, _, p, hp => by cases hp
  | (c, s) :: rest, seen, hc, hseen, p, hp => by
    simp only [chainB, Bool.and_eq_true, List.contains_iff_mem] at hc
    have hcl := depB_listed h hj hc.1.2 (hseen s hc.1.1)
    rcases List.mem_cons.1 hp with rfl | hp
    · exact hcl
    · refine chainB_listed h hj rest (c :: seen) hc.2 (fun x hx => ?_) p hp
      rcases List.mem_cons.1 hx with rfl | hx
      · exact .inr hcl
      · exact hseen x hx
/-- if j waits for all that is listed beside i, and i is not listed, j cannot come up -/
theorem allB_ready {ops : Array Oper} {listed : Array Bool} {i j : Nat} {C : List (Nat × Nat)} (h : Shut ops listed) (hj : j ∈ Region.ready .any ops listed) (hi : i ∈ Region.ready .any ops listed) (hl : allB ops (listed.setIfInBounds i true) j C = true) : False := by
  obtain ⟨h0, o, ho, _⟩ := mem_ready.1 hi
  have hlt : i < ops.size := (Array.getElem?_eq_some_iff.1 ho).1
  simp only [allB, Bool.and_eq_true] at hl
  have h1 := List.all_eq_true.1 hl.2 i (List.mem_range.2 hlt)
  have hin : i < listed.size := by
    rcases Nat.lt_or_ge i listed.size with h' | h'
    · exact h'
    · simp [Array.getElem?_eq_none h'] at h0
  have h2 : (listed.setIfInBounds i true).getD i false = true := by simp [hin]
  rw [h2] at h1
  simp only [Bool.not_true, Bool.false_or, List.any_eq_true, beq_iff_eq] at h1
  obtain ⟨p, hp, rfl⟩ := h1
  have h3 := chainB_listed h hj C [j] hl.1 (fun s hs => .inl (by simpa using hs)) p hp
  simp [hin] at h0 h3
  rw [h0] at h3
  cases h3

/-- a tree of orders: a reader ahead; the one that may come up; the one that waits for all ahead; one of two -/
inductive OH where
  | nil
  | take (i : Nat) (t : OH)
  | one (i : Nat) (t : OH)
  | res (i : Nat) (C : List (Nat × Nat)) (t : OH)
  | two (i : Nat) (t : OH) (j : Nat) (s : OH)
def okOH (ops : Array Oper) : OH → Nat → Array Bool → Bool
  | .nil, 0, listed => (Region.ready .any ops listed).isEmpty
  | .take i t, n + 1, listed => (Region.ready .any ops listed).contains i && Region.free .any ops listed i && okOH ops t n (listed.setIfInBounds i true)
  | .one i t, n + 1, listed => Region.ready .any ops listed == [i] && okOH ops t n (listed.setIfInBounds i true)
  | .res i C t, n + 1, listed => Region.ready .any ops listed == [i] && allB ops listed i C && okOH ops t n (listed.setIfInBounds i true)
  | .two i t j s, n + 1, listed => Region.ready .any ops listed == [i, j] && okOH ops t n (listed.setIfInBounds i true) && okOH ops s n (listed.setIfInBounds j true)
  | _, _, _ => false
section
variable {P : Program} {ops : Array Oper} {Q : Exit → Act → World → Prop} {S : World → Prop}
/-- in whatever order: S holds behind each operation but one that waits for all ahead of it -/
def anyH (P : Program) (ops : Array Oper) (Q : Exit → Act → World → Prop) (S : World → Prop) : Nat → Array Bool → Act → World → Prop
  | 0, listed, a, w => Region.ready .any ops listed = [] ∧ Q .normal a w
  | fuel + 1, listed, a, w => (Region.ready .any ops listed = [] → Q .normal a w) ∧
    ∀ i ∈ Region.ready .any ops listed, wpOp P ops Q i (fun a' w' => (S w' ∧ anyH P ops Q S fuel (listed.setIfInBounds i true) a' w') ∨ ((∃ C, allB ops listed i C = true) ∧ wpAny P .any ops Q fuel (listed.setIfInBounds i true) a' w')) a w
theorem any_of_anyH : ∀ (fuel : Nat) (listed : Array Bool) (a : Act) (w : World), anyH P ops Q S fuel listed a w → wpAny P .any ops Q fuel listed a w
  | 0, _, _, _, h => h
  | fuel + 1, _, _, _, h => ⟨h.1, fun i hi => wpOp_mono (fun a' w' h' => h'.elim (fun h' => any_of_anyH fuel _ a' w' h'.2) (fun h' => h'.2)) (h.2 i hi)⟩
theorem anyH_weaken {S S' : World → Prop} (hSS : ∀ w, S' w → S w) : ∀ (fuel : Nat) (listed : Array Bool) (a : Act) (w : World), anyH P ops Q S' fuel listed a w → anyH P ops Q S fuel listed a w
  | 0, _, _, _, h => h
  | fuel + 1, _, _, _, h => ⟨h.1, fun i hi => wpOp_mono (fun a' w' h' => h'.imp (fun h' => ⟨hSS _ h'.1, anyH_weaken hSS fuel _ a' w' h'.2⟩) id) (h.2 i hi)⟩
theorem anyH_take {i : Nat} {o : Oper} {v : Value} (hi : ops[i]? = some o) (hs : Region.noSelect ops = true) (hQ : ∀ c a w, Q (.panic c) (a.put o.dst v) w → Q (.panic c) a w) :
    ∀ (fuel : Nat) (listed : Array Bool) (a : Act) (w : World), Shut ops listed → Region.free .any ops listed i = true → i ∈ Region.ready .any ops listed → YieldsIf P ops S o v a → S w →
      anyH P ops Q S fuel (listed.setIfInBounds i true) (a.put o.dst v) w → anyH P ops Q S (fuel + 1) listed a w := by
  intro fuel
  induction fuel with
  | zero =>
    intro listed a w _ _ hr hy hS H
    refine ⟨fun h => (by rw [h] at hr; cases hr), fun j hj => ?_⟩
    rcases Nat.decEq j i with hji | hji
    · exact absurd (ready_mono hj hji) (by rw [H.1]; simp)
    · subst hji
      exact hy.wpOp hi hS (.inl ⟨hS, H⟩)
  | succ fuel ih =>
    intro listed a w hsh hf hr hy hS H
    refine ⟨fun h => (by rw [h] at hr; cases hr), fun j hj => ?_⟩
    rcases Nat.decEq j i with hji | hji
    · obtain ⟨hjun, oj, hoj, hall⟩ := mem_ready.1 hj
      have hno : ∀ e ∈ oj.after, Region.binds .any e = true → e.on ≠ i := by
        intro e he hb heq
        have q1 := hall e he hb
        have q0 := (mem_ready.1 hr).1
        rw [heq] at q1
        rcases Nat.lt_or_ge i listed.size with h' | h'
        · simp [h'] at q0 q1; rw [q0] at q1; cases q1
        · simp [Array.getElem?_eq_none h'] at q1
      have hap := Region.free_spec hi hf j oj hoj hji hjun hno
      have hsel := Region.noSelect_spec hs
      have hstep := wpOp_putIf hoj hap (fun cs b => hsel i o cs b hi) (fun cs b => hsel j oj cs b hoj) hQ hy (H.2 j (ready_mono hj hji))
      have hf2 : Region.free .any ops (listed.setIfInBounds j true) i = true := by
        unfold Region.free at hf ⊢
        rw [hi] at hf ⊢
        simp only [List.all_eq_true, List.mem_range, Bool.or_eq_true] at hf ⊢
        intro k hk
        rcases hf k hk with (q | q) | q
        · exact .inl (.inl q)
        · by_cases hkj : j = k
          · subst hkj
            rw [hjun] at q
            cases q
          · exact .inl (.inr (by rw [getD_set_ne true hkj]; exact q))
        · exact .inr q
      refine wpOp_mono (fun a' w' h3 => ?_) hstep
      rcases h3.2 with ⟨hSj, h4⟩ | ⟨⟨C, hC⟩, _⟩
      · refine .inl ⟨hSj, ih _ a' w' (hsh.ready hj) hf2 (ready_mono hr (Ne.symm hji)) h3.1 hSj ?_⟩
        rw [Array.setIfInBounds_comm _ _ hji]
        exact h4
      · exact (allB_ready hsh hj hr hC).elim
    · subst hji
      exact hy.wpOp hi hS (.inl ⟨hS, H⟩)
end
section
variable (P : Program) (R : World → World → Prop) (ops : Array Oper) (Q : Exit → Act → World → Prop)
def LinH : OH → Act → World → Prop
  | .nil, a, w => Q .normal a w
  | .take i t, a, w => ∃ o v, ops[i]? = some o ∧ YieldsIf P ops (fun w' => R w w') o v a ∧ LinH t (a.put o.dst v) w
  | .one i t, a, w => wpOp P ops Q i (fun a' w' => R w w' ∧ LinH t a' w') a w
  | .res i _ t, a, w => wpOp P ops Q i (fun a' w' => LinH t a' w') a w
  | .two i t j s, a, w => wpOp P ops Q i (fun a' w' => R w w' ∧ LinH t a' w') a w ∧ wpOp P ops Q j (fun a' w' => R w w' ∧ LinH s a' w') a w
end
section
variable {P : Program} {R : World → World → Prop} {ops : Array Oper} {Q : Exit → Act → World → Prop}
theorem anyH_of_lin (HR : Way R) (hs : Region.noSelect ops = true) (hQ : ∀ c a d v w, Q (.panic c) (Act.put a (some d) v) w → Q (.panic c) a w) :
    ∀ (σ : OH) (n : Nat) (listed : Array Bool) (a : Act) (w : World), Shut ops listed → okOH ops σ n listed = true → LinH P R ops Q σ a w → anyH P ops Q (fun w' => R w w') n listed a w
  | .nil, 0, listed, a, w, _, ho, h => ⟨by simpa [okOH] using ho, h⟩
  | .take i t, n + 1, listed, a, w, hsh, ho, h => by
    simp only [okOH, Bool.and_eq_true] at ho
    obtain ⟨o, v, hi, hy, hr⟩ := h
    have hrd : i ∈ Region.ready .any ops listed := by simpa using ho.1.1
    refine anyH_take hi hs (fun c a w => ?_) _ _ _ _ hsh ho.1.2 hrd hy (HR.refl _) (anyH_of_lin HR hs hQ t n _ _ _ (hsh.ready hrd) ho.2 hr)
    cases o.dst with
    | none => exact fun h => h
    | some d => exact hQ c a d v w
  | .one i t, n + 1, listed, a, w, hsh, ho, h => by
    simp only [okOH, Bool.and_eq_true, beq_iff_eq] at ho
    refine ⟨fun h0 => (by rw [ho.1] at h0; cases h0), fun j hj => ?_⟩
    have hj' := hj
    rw [ho.1] at hj
    simp only [List.mem_singleton] at hj
    subst hj
    refine wpOp_mono (fun a' w' h' => .inl ⟨h'.1, ?_⟩) h
    exact anyH_weaken (fun W hW => HR.trans h'.1 hW) _ _ _ _ (anyH_of_lin HR hs hQ t n _ _ _ (hsh.ready hj') ho.2 h'.2)
  | .res i C t, n + 1, listed, a, w, hsh, ho, h => by
    simp only [okOH, Bool.and_eq_true, beq_iff_eq] at ho
    refine ⟨fun h0 => (by rw [ho.1.1] at h0; cases h0), fun j hj => ?_⟩
    have hj' := hj
    rw [ho.1.1] at hj
    simp only [List.mem_singleton] at hj
    subst hj
    refine wpOp_mono (fun a' w' h' => .inr ⟨⟨C, ho.1.2⟩, ?_⟩) h
    exact any_of_anyH _ _ _ _ (anyH_of_lin HR hs hQ t n _ _ _ (hsh.ready hj') ho.2 h')
  | .two i t j s, n + 1, listed, a, w, hsh, ho, h => by
    simp only [okOH, Bool.and_eq_true, beq_iff_eq] at ho
    refine ⟨fun h0 => (by rw [ho.1.1] at h0; cases h0), fun k hk => ?_⟩
    have hk' := hk
    rw [ho.1.1] at hk
    simp only [List.mem_cons, List.not_mem_nil, or_false] at hk
    rcases hk with rfl | rfl
    · refine wpOp_mono (fun a' w' h' => .inl ⟨h'.1, ?_⟩) h.1
      exact anyH_weaken (fun W hW => HR.trans h'.1 hW) _ _ _ _ (anyH_of_lin HR hs hQ t n _ _ _ (hsh.ready hk') ho.1.2 h'.2)
    · refine wpOp_mono (fun a' w' h' => .inl ⟨h'.1, ?_⟩) h.2
      exact anyH_weaken (fun W hW => HR.trans h'.1 hW) _ _ _ _ (anyH_of_lin HR hs hQ s n _ _ _ (hsh.ready hk') ho.2 h'.2)
  | .nil, _ + 1, _, _, _, _, ho, _ => by simp [okOH] at ho
  | .take _ _, 0, _, _, _, _, ho, _ => by simp [okOH] at ho
  | .one _ _, 0, _, _, _, _, ho, _ => by simp [okOH] at ho
  | .res _ _ _, 0, _, _, _, _, ho, _ => by simp [okOH] at ho
  | .two _ _ _ _, 0, _, _, _, _, ho, _ => by simp [okOH] at ho
theorem wp_region_linH (R : World → World → Prop) (HR : Way R) (σ : OH) {id : Nat} {a : Act} {w : World} (hm : P.follows .mixedOrders = true) (hs : Region.noSelect ops = true)
    (hok : okOH ops σ ops.size (Array.replicate ops.size false) = true) (hQ : ∀ c a d v w, Q (.panic c) (Act.put a (some d) v) w → Q (.panic c) a w)
    (h : LinH P R ops Q σ a w.drew) : (Code.region id ops true).wp P Q a w :=
  wp_region_any hm (any_of_anyH _ _ _ _ (anyH_of_lin HR hs hQ σ _ _ _ _ (shut_none ops ops.size) hok h))
theorem linH_take {i : Nat} {t : OH} {a : Act} {w : World} {o : Oper} {v : Value} (hi : ops[i]? = some o) (hw : Region.wanted o (yielded ops a.tmps) = true)
    (hy : ∀ w', R w w' → (execOp a.eval o).run P w' = .ok (.value v) w') (h : LinH P R ops Q t (a.put o.dst v) w) : LinH P R ops Q (.take i t) a w :=
  ⟨o, v, hi, .inl ⟨hw, hy⟩, h⟩
theorem linH_skip {i : Nat} {t : OH} {a : Act} {w : World} {o : Oper} (hi : ops[i]? = some o) (hw : Region.wanted o (yielded ops a.tmps) = false)
    (h : LinH P R ops Q t (a.put o.dst undef) w) : LinH P R ops Q (.take i t) a w :=
  ⟨o, undef, hi, .inr ⟨hw, rfl⟩, h⟩
theorem opH {i : Nat} {t : OH} {a : Act} {w : World} {o : Oper} (hi : ops[i]? = some o) (hw : Region.wanted o (yielded ops a.tmps) = true)
    (h : ∀ K : Act → World → Prop, (∀ a' w', R w w' → LinH P R ops Q t a' w' → K a' w') → o.wp P a w K Q) : wpOp P ops Q i (fun a' w' => R w w' ∧ LinH P R ops Q t a' w') a w := by
  unfold wpOp
  simp only [hi, hw, if_true]
  exact .inl (h _ fun a' w' h1 h2 => ⟨h1, h2⟩)
theorem passH (HR : Way R) {i : Nat} {t : OH} {a : Act} {w : World} {o : Oper} (hi : ops[i]? = some o) (hw : Region.wanted o (yielded ops a.tmps) = false)
    (h : LinH P R ops Q t (a.put o.dst undef) w) : wpOp P ops Q i (fun a' w' => R w w' ∧ LinH P R ops Q t a' w') a w := by
  unfold wpOp
  simp only [hi, hw, Bool.false_eq_true, if_false]
  exact ⟨HR.refl _, h⟩
theorem linH_op {i : Nat} {t : OH} {a : Act} {w : World} {o : Oper} (hi : ops[i]? = some o) (hw : Region.wanted o (yielded ops a.tmps) = true)
    (h : ∀ K : Act → World → Prop, (∀ a' w', R w w' → LinH P R ops Q t a' w' → K a' w') → o.wp P a w K Q) : LinH P R ops Q (.one i t) a w := opH hi hw h
theorem linH_pass (HR : Way R) {i : Nat} {t : OH} {a : Act} {w : World} {o : Oper} (hi : ops[i]? = some o) (hw : Region.wanted o (yielded ops a.tmps) = false)
    (h : LinH P R ops Q t (a.put o.dst undef) w) : LinH P R ops Q (.one i t) a w := passH HR hi hw h
theorem linH_res {i : Nat} {C : List (Nat × Nat)} {t : OH} {a : Act} {w : World} {o : Oper} (hi : ops[i]? = some o) (hw : Region.wanted o (yielded ops a.tmps) = true)
    (h : ∀ K : Act → World → Prop, (∀ a' w', True → LinH P R ops Q t a' w' → K a' w') → o.wp P a w K Q) : LinH P R ops Q (.res i C t) a w := by
  show wpOp P ops Q i _ a w
  unfold wpOp
  simp only [hi, hw, if_true]
  exact .inl (h _ fun a' w' _ h2 => h2)
theorem linH_resPass {i : Nat} {C : List (Nat × Nat)} {t : OH} {a : Act} {w : World} {o : Oper} (hi : ops[i]? = some o) (hw : Region.wanted o (yielded ops a.tmps) = false)
    (h : LinH P R ops Q t (a.put o.dst undef) w) : LinH P R ops Q (.res i C t) a w := by
  show wpOp P ops Q i _ a w
  unfold wpOp
  simp only [hi, hw, Bool.false_eq_true, if_false]
  exact h
theorem linH_two {i j : Nat} {t s : OH} {a : Act} {w : World} (h : wpOp P ops Q i (fun a' w' => R w w' ∧ LinH P R ops Q t a' w') a w) (h' : wpOp P ops Q j (fun a' w' => R w w' ∧ LinH P R ops Q s a' w') a w) :
    LinH P R ops Q (.two i t j s) a w := ⟨h, h'⟩
theorem linH_end {a : Act} {w : World} (h : Q .normal a w) : LinH P R ops Q .nil a w := h
/-- a whole struct loaded, its cells known in whatever world lies beyond -/
theorem linH_load {i : Nat} {t : OH} {a : Act} {w : World} {o : Oper} {ty : TypeId} {x : Operand} {ad : Addr} (vs : List Value) (hi : ops[i]? = some o) (hw : Region.wanted o (yielded ops a.tmps) = true) (ho : o.op = .load ty x)
    (hx : a.eval x = .pointer (some ad)) (ha : ∀ w', (isAgg ty).run P w' = .ok true w') (hsz : (P.info? ty).map (·.size) = some vs.length) (hc : ∀ w', R w w' → ∀ j v, vs[j]? = some v → w'.cell? (ad.add j) = some v)
    (h : LinH P R ops Q t (a.put o.dst (.agg vs.toArray)) w) : LinH P R ops Q (.take i t) a w := by
  refine linH_take hi hw (fun w' hR => ?_) h
  have hl := run_loadR (ha w') hsz (hc w' hR)
  unfold execOp
  simp only [ho, hx, Instr.loadAt, Instr.sureAddr, Sem.run_bind, Sem.run_pure, Result.andThen_ok, hl]
end
end Go.Proofs.Ytlbpmboknmbcgaa
