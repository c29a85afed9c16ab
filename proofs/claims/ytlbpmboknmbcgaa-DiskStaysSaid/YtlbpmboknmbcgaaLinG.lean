/- XLinR, where the operation that waits for all others may leave the relation: the last store may turn what the region reads. -/
import Derived.Test.YtlbpmboknmbcgaaLinT
import Derived.Test.YtlbpmboknmbcgaaLoadR
namespace Go.Proofs.Ytlbpmboknmbcgaa
open Go.RowKit

/-- does operation j wait for operation k, straight or through one other? -/
def waits (ops : Array Oper) (j k : Nat) : Bool := match ops[j]? with
  | some o => o.after.any fun e => Region.binds .any e && (e.on == k || match ops[e.on]? with
    | some o' => o'.after.any fun e' => Region.binds .any e' && e'.on == k
    | none => false)
  | none => false
def lastB (ops : Array Oper) (j : Nat) : Bool := (List.range ops.size).all fun k => k == j || waits ops j k
/-- what is listed has all listed that it waits for -/
def Shut (ops : Array Oper) (listed : Array Bool) : Prop := ∀ k o, ops[k]? = some o → listed.getD k false = true → ∀ e ∈ o.after, Region.binds .any e = true → listed.getD e.on false = true
theorem Shut.ready {ops : Array Oper} {listed : Array Bool} {i : Nat} (h : Shut ops listed) (hi : i ∈ Region.ready .any ops listed) : Shut ops (listed.setIfInBounds i true) := by
  intro k o hk hl e he hb
  obtain ⟨_, o', ho', hall⟩ := mem_ready.1 hi
  by_cases hki : k = i
  · subst hki
    rw [hk] at ho'
    cases ho'
    exact getD_set_true (hall e he hb)
  · rw [getD_set_ne false (Ne.symm hki)] at hl
    exact getD_set_true (h k o hk hl e he hb)
theorem waits_ready {ops : Array Oper} {listed : Array Bool} {j k : Nat} (h : Shut ops listed) (hj : j ∈ Region.ready .any ops listed) (hw : waits ops j k = true) : listed.getD k false = true := by
  obtain ⟨_, o, ho, hall⟩ := mem_ready.1 hj
  unfold waits at hw
  rw [ho] at hw
  simp only [Array.any_eq_true'] at hw
  obtain ⟨e, he, hw⟩ := hw
  simp only [Bool.and_eq_true, Bool.or_eq_true, beq_iff_eq] at hw
  obtain ⟨hb, hw⟩ := hw
  have h1 := hall e he hb
  rcases hw with rfl | hw
  · exact h1
  · cases ho' : ops[e.on]? with
    | none => rw [ho'] at hw; cases hw
    | some o' =>
      rw [ho'] at hw
      simp only [Array.any_eq_true', Bool.and_eq_true, beq_iff_eq] at hw
      obtain ⟨e', he', hb', rfl⟩ := hw
      exact h _ o' ho' h1 e' he' hb'
theorem last_ready {ops : Array Oper} {listed : Array Bool} {i j : Nat} (h : Shut ops listed) (hj : j ∈ Region.ready .any ops listed) (hi : i ∈ Region.ready .any ops listed) (hl : lastB ops j = true) : i = j := by
  obtain ⟨h0, o, ho, _⟩ := mem_ready.1 hi
  have hlt : i < ops.size := (Array.getElem?_eq_some_iff.1 ho).1
  have := List.all_eq_true.1 hl i (List.mem_range.2 hlt)
  simp only [Bool.or_eq_true, beq_iff_eq] at this
  rcases this with h1 | h1
  · exact h1
  · have h2 := waits_ready h hj h1
    rcases Nat.lt_or_ge i listed.size with h' | h'
    · simp [h'] at h0 h2; rw [h0] at h2; cases h2
    · simp [Array.getElem?_eq_none h'] at h0
section
variable {P : Program} {ops : Array Oper} {Q : Exit → Act → World → Prop} {S : World → Prop}
/-- in whatever order: S holds behind each operation but the one that waits for all -/
def anyG (P : Program) (ops : Array Oper) (Q : Exit → Act → World → Prop) (S : World → Prop) : Nat → Array Bool → Act → World → Prop
  | 0, listed, a, w => Region.ready .any ops listed = [] ∧ Q .normal a w
  | fuel + 1, listed, a, w => (Region.ready .any ops listed = [] → Q .normal a w) ∧
    ∀ i ∈ Region.ready .any ops listed, wpOp P ops Q i (fun a' w' => (S w' ∨ lastB ops i = true) ∧ anyG P ops Q S fuel (listed.setIfInBounds i true) a' w') a w
theorem any_of_anyG : ∀ (fuel : Nat) (listed : Array Bool) (a : Act) (w : World), anyG P ops Q S fuel listed a w → wpAny P .any ops Q fuel listed a w
  | 0, _, _, _, h => h
  | fuel + 1, _, _, _, h => ⟨h.1, fun i hi => wpOp_mono (fun a' w' h' => any_of_anyG fuel _ a' w' h'.2) (h.2 i hi)⟩
theorem anyG_weaken {S S' : World → Prop} (hSS : ∀ w, S' w → S w) : ∀ (fuel : Nat) (listed : Array Bool) (a : Act) (w : World), anyG P ops Q S' fuel listed a w → anyG P ops Q S fuel listed a w
  | 0, _, _, _, h => h
  | fuel + 1, _, _, _, h => ⟨h.1, fun i hi => wpOp_mono (fun a' w' h' => ⟨h'.1.imp (hSS _) id, anyG_weaken hSS fuel _ a' w' h'.2⟩) (h.2 i hi)⟩
theorem anyG_take {i : Nat} {o : Oper} {v : Value} (hi : ops[i]? = some o) (hs : Region.noSelect ops = true) (hQ : ∀ c a w, Q (.panic c) (a.put o.dst v) w → Q (.panic c) a w) :
    ∀ (fuel : Nat) (listed : Array Bool) (a : Act) (w : World), Shut ops listed → Region.free .any ops listed i = true → i ∈ Region.ready .any ops listed → YieldsIf P ops S o v a → S w →
      anyG P ops Q S fuel (listed.setIfInBounds i true) (a.put o.dst v) w → anyG P ops Q S (fuel + 1) listed a w := by
  intro fuel
  induction fuel with
  | zero =>
    intro listed a w _ _ hr hy hS H
    refine ⟨fun h => (by rw [h] at hr; cases hr), fun j hj => ?_⟩
    rcases Nat.decEq j i with hji | hji
    · exact absurd (ready_mono hj hji) (by rw [H.1]; simp)
    · subst hji
      exact hy.wpOp hi hS ⟨.inl hS, H⟩
  | succ fuel ih =>
    intro listed a w hsh hf hr hy hS H
    refine ⟨fun h => (by rw [h] at hr; cases hr), fun j hj => ?_⟩
    rcases Nat.decEq j i with hji | hji
    · obtain ⟨hjun, oj, hoj, hall⟩ := mem_ready.1 hj
      have hno : ∀ e ∈ oj.after, Region.binds .any e = true → e.on ≠ i := by
        intro e he hb heq
        have q1 := hall e he hb
        have q0 := (mem_ready.1 hr).1
        rw [heq] at q1
        rcases Nat.lt_or_ge i listed.size with h' | h'
        · simp [h'] at q0 q1; rw [q0] at q1; cases q1
        · simp [Array.getElem?_eq_none h'] at q1
      have hap := Region.free_spec hi hf j oj hoj hji hjun hno
      have hsel := Region.noSelect_spec hs
      have hstep := wpOp_putIf hoj hap (fun cs b => hsel i o cs b hi) (fun cs b => hsel j oj cs b hoj) hQ hy (H.2 j (ready_mono hj hji))
      have hf2 : Region.free .any ops (listed.setIfInBounds j true) i = true := by
        unfold Region.free at hf ⊢
        rw [hi] at hf ⊢
        simp only [List.all_eq_true, List.mem_range, Bool.or_eq_true] at hf ⊢
        intro k hk
        rcases hf k hk with (q | q) | q
        · exact .inl (.inl q)
        · by_cases hkj : j = k
          · subst hkj
            rw [hjun] at q
            cases q
          · exact .inl (.inr (by rw [getD_set_ne true hkj]; exact q))
        · exact .inr q
      refine wpOp_mono (fun a' w' h3 => ?_) hstep
      have hSj : S w' := h3.2.1.resolve_right fun hl => hji (last_ready hsh hj hr hl).symm
      refine ⟨.inl hSj, ih _ a' w' (hsh.ready hj) hf2 (ready_mono hr (Ne.symm hji)) h3.1 hSj ?_⟩
      rw [Array.setIfInBounds_comm _ _ hji]
      exact h3.2.2
    · subst hji
      exact hy.wpOp hi hS ⟨.inl hS, H⟩
end
section
variable (P : Program) (R : World → World → Prop) (ops : Array Oper) (Q : Exit → Act → World → Prop)
def LinG : List (Nat × Bool) → Act → World → Prop
  | [], a, w => Q .normal a w
  | (i, true) :: rest, a, w => ∃ o v, ops[i]? = some o ∧ YieldsIf P ops (fun w' => R w w') o v a ∧ LinG rest (a.put o.dst v) w
  | (i, false) :: rest, a, w => wpOp P ops Q i (fun a' w' => (R w w' ∨ lastB ops i = true ∧ rest = []) ∧ LinG rest a' w') a w
end
section
variable {P : Program} {R : World → World → Prop} {ops : Array Oper} {Q : Exit → Act → World → Prop}
theorem anyG_of_lin (HR : Way R) (hs : Region.noSelect ops = true) (hQ : ∀ c a d v w, Q (.panic c) (Act.put a (some d) v) w → Q (.panic c) a w) :
    ∀ (σ : List (Nat × Bool)) (listed : Array Bool) (a : Act) (w : World), Shut ops listed → okOrd ops σ listed = true → LinG P R ops Q σ a w → anyG P ops Q (fun w' => R w w') σ.length listed a w
  | [], listed, a, w, _, ho, h => ⟨by simpa [okOrd] using ho, h⟩
  | (i, true) :: σ, listed, a, w, hsh, ho, h => by
    simp only [okOrd, Bool.and_eq_true] at ho
    obtain ⟨o, v, hi, hy, hr⟩ := h
    have hrd : i ∈ Region.ready .any ops listed := by simpa using ho.1.2
    refine anyG_take hi hs (fun c a w => ?_) _ _ _ _ hsh ho.1.1 hrd hy (HR.refl _) (anyG_of_lin HR hs hQ σ _ _ _ (hsh.ready hrd) ho.2 hr)
    cases o.dst with
    | none => exact fun h => h
    | some d => exact hQ c a d v w
  | (i, false) :: σ, listed, a, w, hsh, ho, h => by
    simp only [okOrd, Bool.and_eq_true, beq_iff_eq] at ho
    refine ⟨fun h0 => (by rw [ho.1] at h0; cases h0), fun j hj => ?_⟩
    have hj' := hj
    rw [ho.1] at hj
    simp only [List.mem_singleton] at hj
    subst hj
    refine wpOp_mono (fun a' w' h' => ?_) h
    rcases h'.1 with hR | ⟨hl, rfl⟩
    · exact ⟨.inl hR, anyG_weaken (fun W hW => HR.trans hR hW) _ _ _ _ (anyG_of_lin HR hs hQ σ _ _ _ (hsh.ready hj') ho.2 h'.2)⟩
    · exact ⟨.inr hl, by simpa [okOrd] using ho.2, h'.2⟩
theorem shut_none (ops : Array Oper) (n : Nat) : Shut ops (Array.replicate n false) := fun k o _ hl => by
  by_cases h : k < n <;> simp [h] at hl
theorem wp_region_linG (R : World → World → Prop) (HR : Way R) (σ : List (Nat × Bool)) {id : Nat} {a : Act} {w : World} (hm : P.follows .mixedOrders = true) (hl : σ.length = ops.size) (hs : Region.noSelect ops = true)
    (hok : okOrd ops σ (Array.replicate ops.size false) = true) (hQ : ∀ c a d v w, Q (.panic c) (Act.put a (some d) v) w → Q (.panic c) a w)
    (h : LinG P R ops Q σ a w.drew) : (Code.region id ops true).wp P Q a w :=
  wp_region_any hm (any_of_anyG _ _ _ _ (by
    have := anyG_of_lin HR hs hQ σ _ _ _ (shut_none ops ops.size) hok h
    rw [hl] at this
    exact this))
theorem linG_take {i : Nat} {rest : List (Nat × Bool)} {a : Act} {w : World} {o : Oper} {v : Value} (hi : ops[i]? = some o) (hw : Region.wanted o (yielded ops a.tmps) = true)
    (hy : ∀ w', R w w' → (execOp a.eval o).run P w' = .ok (.value v) w') (h : LinG P R ops Q rest (a.put o.dst v) w) : LinG P R ops Q ((i, true) :: rest) a w :=
  ⟨o, v, hi, .inl ⟨hw, hy⟩, h⟩
theorem linG_skip {i : Nat} {rest : List (Nat × Bool)} {a : Act} {w : World} {o : Oper} (hi : ops[i]? = some o) (hw : Region.wanted o (yielded ops a.tmps) = false)
    (h : LinG P R ops Q rest (a.put o.dst undef) w) : LinG P R ops Q ((i, true) :: rest) a w :=
  ⟨o, undef, hi, .inr ⟨hw, rfl⟩, h⟩
theorem linG_op {i : Nat} {rest : List (Nat × Bool)} {a : Act} {w : World} {o : Oper} (hi : ops[i]? = some o) (hw : Region.wanted o (yielded ops a.tmps) = true)
    (h : ∀ K : Act → World → Prop, (∀ a' w', R w w' → LinG P R ops Q rest a' w' → K a' w') → o.wp P a w K Q) : LinG P R ops Q ((i, false) :: rest) a w := by
  show wpOp P ops Q i _ a w
  unfold wpOp
  simp only [hi, hw, if_true]
  exact .inl (h _ fun a' w' h1 h2 => ⟨.inl h1, h2⟩)
theorem linG_last {i : Nat} {a : Act} {w : World} {o : Oper} (hi : ops[i]? = some o) (hw : Region.wanted o (yielded ops a.tmps) = true) (hl : lastB ops i = true)
    (h : ∀ K : Act → World → Prop, (∀ a' w', True → Q .normal a' w' → K a' w') → o.wp P a w K Q) : LinG P R ops Q [(i, false)] a w := by
  show wpOp P ops Q i _ a w
  unfold wpOp
  simp only [hi, hw, if_true]
  exact .inl (h _ fun a' w' h1 h2 => ⟨.inr ⟨hl, by trivial⟩, h2⟩)
theorem linG_pass (HR : Way R) {i : Nat} {rest : List (Nat × Bool)} {a : Act} {w : World} {o : Oper} (hi : ops[i]? = some o) (hw : Region.wanted o (yielded ops a.tmps) = false)
    (h : LinG P R ops Q rest (a.put o.dst undef) w) : LinG P R ops Q ((i, false) :: rest) a w := by
  show wpOp P ops Q i _ a w
  unfold wpOp
  simp only [hi, hw, Bool.false_eq_true, if_false]
  exact ⟨.inl (HR.refl _), h⟩
/-- a whole struct loaded, its cells known in whatever world lies beyond -/
theorem linG_load {i : Nat} {rest : List (Nat × Bool)} {a : Act} {w : World} {o : Oper} {ty : TypeId} {x : Operand} {ad : Addr} (vs : List Value) (hi : ops[i]? = some o) (hw : Region.wanted o (yielded ops a.tmps) = true) (ho : o.op = .load ty x)
    (hx : a.eval x = .pointer (some ad)) (ha : ∀ w', (isAgg ty).run P w' = .ok true w') (hsz : (P.info? ty).map (·.size) = some vs.length) (hc : ∀ w', R w w' → ∀ j v, vs[j]? = some v → w'.cell? (ad.add j) = some v)
    (h : LinG P R ops Q rest (a.put o.dst (.agg vs.toArray)) w) : LinG P R ops Q ((i, true) :: rest) a w := by
  refine linG_take hi hw (fun w' hR => ?_) h
  have hl := run_loadR (ha w') hsz (hc w' hR)
  unfold execOp
  simp only [ho, hx, Instr.loadAt, Instr.sureAddr, Sem.run_bind, Sem.run_pure, Result.andThen_ok, hl]
theorem linG_end {a : Act} {w : World} (h : Q .normal a w) : LinG P R ops Q [] a w := h
end
/-- a relation, and a block that stays -/
def RG (R : World → World → Prop) (g : Nat) : World → World → Prop := fun w w' => R w w' ∧ w'.heap[g]? = w.heap[g]?
theorem wayRG {R : World → World → Prop} (h : Way R) (g : Nat) : Way (RG R g) :=
  ⟨fun w => ⟨h.refl w, rfl⟩, fun h1 h2 => ⟨h.trans h1.1 h2.1, h2.2.trans h1.2⟩, fun w => ⟨h.drew w, rfl⟩⟩
theorem RG.row {R : World → World → Prop} {g : Nat} {w w' : World} {c : Array Value} {t : TypeId} (h : RG R g w w') (hr : Row w g c t) : Row w' g c t := h.2.trans hr
theorem row_cells {W : World} {g : Nat} {vs : List Value} {t : TypeId} (h : Row W g vs.toArray t) : ∀ j v, vs[j]? = some v → W.cell? ((⟨g, 0, none⟩ : Addr).add j) = some v := by
  intro j v hv
  rw [ad_none, Nat.zero_add]
  exact h.cell j (by simpa using hv)
end Go.Proofs.Ytlbpmboknmbcgaa
