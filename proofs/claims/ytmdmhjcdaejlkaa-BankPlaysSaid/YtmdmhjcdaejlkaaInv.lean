/- A region that draws its order, by an invariant: what each operation's slot holds is good in the world, whatever came between. -/
import Derived.Test.YtmdmhjcdaejlkaaGA
set_option linter.unusedVariables false
set_option linter.unusedSimpArgs false
namespace Go.Proofs.Ytmdmhjcdaejlkaa
open Go.RowKit

/-- the slots ds hold x k, x (k + 1), .. -/
def fillA : List Nat → Nat → (Nat → Value) → Act → Act
  | [], _, _, a => a
  | d :: ds, k, x, a => fillA ds (k + 1) x (a.put (some d) (x k))
def updV (x : Nat → Value) (i : Nat) (y : Value) : Nat → Value := fun j => if j = i then y else x j
theorem updV_same (x : Nat → Value) (i : Nat) (y : Value) : updV x i y i = y := by simp [updV]
theorem updV_ne (x : Nat → Value) {i j : Nat} (y : Value) (h : j ≠ i) : updV x i y j = x j := by simp [updV, h]
theorem put_comm (a : Act) {d e : Nat} (v u : Value) (h : d ≠ e) : (a.put (some d) v).put (some e) u = (a.put (some e) u).put (some d) v := by
  simp only [Act.put]
  rw [Array.setIfInBounds_comm _ _ h]
theorem put_twice (a : Act) (d : Nat) (v u : Value) : (a.put (some d) v).put (some d) u = a.put (some d) u := by
  simp only [Act.put]
  rw [Array.setIfInBounds_setIfInBounds]
theorem fillA_put : ∀ (ds : List Nat) (k : Nat) (x : Nat → Value) (a : Act) (d : Nat) (y : Value), d ∉ ds → (fillA ds k x a).put (some d) y = fillA ds k x (a.put (some d) y)
  | [], _, _, _, _, _, _ => rfl
  | e :: ds, k, x, a, d, y, h => by
    simp only [List.mem_cons, not_or] at h
    show (fillA ds (k + 1) x (a.put (some e) (x k))).put (some d) y = fillA ds (k + 1) x ((a.put (some d) y).put (some e) (x k))
    rw [fillA_put ds (k + 1) x _ d y h.2, put_comm a _ _ (Ne.symm h.1)]
theorem fillA_ext : ∀ (ds : List Nat) (k : Nat) (x x' : Nat → Value) (a : Act), (∀ j, k ≤ j → x j = x' j) → fillA ds k x a = fillA ds k x' a
  | [], _, _, _, _, _ => rfl
  | e :: ds, k, x, x', a, h => by
    show fillA ds (k + 1) x (a.put (some e) (x k)) = fillA ds (k + 1) x' (a.put (some e) (x' k))
    rw [h k (Nat.le_refl _)]
    exact fillA_ext ds (k + 1) x x' _ fun j hj => h j (by omega)
theorem fillA_upd : ∀ (ds : List Nat) (k : Nat) (x : Nat → Value) (a : Act) (i : Nat) (y : Value), ds.Nodup → k ≤ i → ∀ d, ds[i - k]? = some d → (fillA ds k x a).put (some d) y = fillA ds k (updV x i y) a
  | [], k, x, a, i, y, _, _, d, h => by simp at h
  | e :: ds, k, x, a, i, y, hn, hk, d, h => by
    rw [List.nodup_cons] at hn
    show (fillA ds (k + 1) x (a.put (some e) (x k))).put (some d) y = fillA ds (k + 1) (updV x i y) (a.put (some e) (updV x i y k))
    rcases Nat.lt_or_ge k i with c | c
    · have hi : i - k = (i - (k + 1)) + 1 := by omega
      rw [hi, List.getElem?_cons_succ] at h
      rw [updV_ne x y (by omega : k ≠ i)]
      exact fillA_upd ds (k + 1) x _ i y hn.2 (by omega) d h
    · have hik : i = k := by omega
      subst hik
      rw [Nat.sub_self, List.getElem?_cons_zero] at h
      cases h
      rw [fillA_put ds _ _ _ _ _ hn.1, put_twice, updV_same]
      exact fillA_ext ds _ _ _ _ fun j hj => (updV_ne x y (by omega)).symm
theorem put_self (a : Act) (d : Nat) : a.put (some d) (a.tmps.getD d undef) = a := by
  have : a.tmps.setIfInBounds d (a.tmps.getD d undef) = a.tmps := by
    apply Array.ext
    · simp
    · intro i h1 h2
      rw [Array.getElem_setIfInBounds (by simpa using h2)]
      split
      · rename_i e
        subst e
        simp [Array.getD, h2]
      · rfl
  show { a with tmps := _ } = a
  rw [this]
theorem fillA_self : ∀ (ds : List Nat) (k : Nat) (x : Nat → Value) (a : Act), (∀ j d, ds[j]? = some d → x (k + j) = a.tmps.getD d undef) → fillA ds k x a = a
  | [], _, _, _, _ => rfl
  | e :: ds, k, x, a, h => by
    show fillA ds (k + 1) x (a.put (some e) (x k)) = a
    have h0 : x k = a.tmps.getD e undef := h 0 e rfl
    rw [h0, put_self]
    refine fillA_self ds (k + 1) x a fun j d hj => ?_
    have := h (j + 1) d (by rw [List.getElem?_cons_succ]; exact hj)
    rw [← this]
    congr 1
    omega
/-- the operations' own slots, in their order; each waits for earlier ones alone -/
def okInv (ops : Array Oper) (ds : List Nat) : Bool :=
  (ds.length == ops.size) && (List.range ops.size).all fun i => match ops[i]?, ds[i]? with
    | some o, some d => o.dst == some d && o.after.all fun e => !Region.binds .any e || decide (e.on < i)
    | _, _ => false
def nodupB : List Nat → Bool
  | [] => true
  | d :: ds => !ds.contains d && nodupB ds
theorem nodup_of : ∀ (ds : List Nat), nodupB ds = true → ds.Nodup
  | [], _ => List.nodup_nil
  | d :: ds, h => by
    simp only [nodupB, Bool.and_eq_true, Bool.not_eq_true'] at h
    refine List.nodup_cons.2 ⟨fun hm => ?_, nodup_of ds h.2⟩
    have := List.contains_iff_mem.2 hm
    rw [h.1] at this
    cases this
theorem okInv_at {ops : Array Oper} {ds : List Nat} (h : okInv ops ds = true) {i : Nat} {o : Oper} (hi : ops[i]? = some o) : ∃ d, ds[i]? = some d ∧ o.dst = some d ∧ ∀ e ∈ o.after, Region.binds .any e = true → e.on < i := by
  unfold okInv at h
  simp only [Bool.and_eq_true] at h
  have := List.all_eq_true.1 h.2 i (List.mem_range.2 (Array.getElem?_eq_some_iff.1 hi).1)
  rw [hi] at this
  cases hd : ds[i]? with
  | none => rw [hd] at this; cases this
  | some d =>
    rw [hd] at this
    simp only [Bool.and_eq_true, beq_iff_eq, Array.all_eq_true', Bool.or_eq_true, Bool.not_eq_true', decide_eq_true_eq] at this
    refine ⟨d, rfl, this.1, fun e he hb => ?_⟩
    rcases this.2 e he with c | c
    · rw [hb] at c; cases c
    · exact c
def unl (n : Nat) (listed : Array Bool) : Nat := ((List.range n).filter fun i => !listed.getD i true).length
theorem unl_set {n i : Nat} {listed : Array Bool} (hi : i < n) (hl : listed.getD i true = false) : unl n (listed.setIfInBounds i true) < unl n listed := by
  unfold unl
  have e : ((List.range n).filter fun j => !(listed.setIfInBounds i true).getD j true) = ((List.range n).filter fun j => !listed.getD j true).filter fun j => j != i := by
    rw [List.filter_filter]
    apply List.filter_congr
    intro j _
    by_cases h : i = j
    · subst h
      have hs : i < listed.size := by
        rcases Nat.lt_or_ge i listed.size with c | c
        · exact c
        · simp [Array.getD, Nat.not_lt.2 c] at hl
      simp [Array.getD, hs]
    · rw [getD_set_ne true h]
      have : (j != i) = true := by simpa using Ne.symm h
      simp [this]
  rw [e]
  refine List.length_filter_lt_length_iff_exists.2 ⟨i, List.mem_filter.2 ⟨List.mem_range.2 hi, by simp [hl]⟩, by simp⟩
section
variable {P : Program} {ops : Array Oper} {Q : Exit → Act → World → Prop}
theorem inv_all {ds : List Nat} (hok : okInv ops ds = true) {listed : Array Bool} (hsz : listed.size = ops.size) (hr : Region.ready .any ops listed = []) : ∀ n i, i < n → i < ops.size → listed.getD i false = true := by
  intro n
  induction n with
  | zero => intro i h; omega
  | succ n ih =>
    intro i hi hlt
    cases hc : listed.getD i false with
    | true => rfl
    | false =>
      exfalso
      have hm : i ∈ Region.ready .any ops listed := by
        refine mem_ready.2 ⟨?_, ops[i], Array.getElem?_eq_getElem hlt, fun e he hb => ?_⟩
        · have : i < listed.size := by omega
          simp [Array.getD, this] at hc ⊢
          exact hc
        · obtain ⟨d, _, _, h⟩ := okInv_at hok (Array.getElem?_eq_getElem hlt)
          have := h e he hb
          exact ih e.on (by omega) (by omega)
      rw [hr] at hm
      cases hm
theorem inv_any (ds : List Nat) (hok : okInv ops ds = true) (hn : ds.Nodup) {R0 : World → World → Prop} (H0 : Way R0) {R : Nat → World → World → Prop} (hR : ∀ i w w', R i w w' → R0 w w') {G : Nat → Value → World → Prop}
    (hst : ∀ i j v w w', j ≠ i → depB ops j i = false → R i w w' → G j v w → G j v w') {a : Act} {w : World}
    (hstep : ∀ i, i < ops.size → ∀ x w1, R0 w w1 → (∀ j, depB ops i j = true → G j (x j) w1) → wpOp P ops Q i (fun a' w' => R i w1 w' ∧ ∃ y, G i y w' ∧ a' = (fillA ds 0 x a).put ds[i]? y) (fillA ds 0 x a) w1)
    (hend : ∀ x w1, R0 w w1 → (∀ j, j < ops.size → G j (x j) w1) → Q .normal (fillA ds 0 x a) w1) :
    ∀ (fuel : Nat) (listed : Array Bool) (x : Nat → Value) (w1 : World), Shut ops listed → unl ops.size listed ≤ fuel → listed.size = ops.size → R0 w w1 → (∀ j, j < ops.size → listed.getD j false = true → G j (x j) w1) →
      wpAny P .any ops Q fuel listed (fillA ds 0 x a) w1 := by
  intro fuel
  induction fuel with
  | zero =>
    intro listed x w1 hsh hu hsz hw hG
    have hall : ∀ j, j < ops.size → listed.getD j false = true := by
      intro j hj
      cases hc : listed.getD j false with
      | true => rfl
      | false =>
        exfalso
        have hlt : j < listed.size := by omega
        have : j ∈ (List.range ops.size).filter fun i => !listed.getD i true := List.mem_filter.2 ⟨List.mem_range.2 hj, by simp [Array.getD, hlt] at hc ⊢; exact hc⟩
        have h0 : ((List.range ops.size).filter fun i => !listed.getD i true) = [] := List.eq_nil_of_length_eq_zero (Nat.le_zero.1 hu)
        rw [h0] at this
        cases this
    refine ⟨?_, hend x w1 hw fun j hj => hG j hj (hall j hj)⟩
    apply List.eq_nil_iff_forall_not_mem.2
    intro i hi
    obtain ⟨h0, o, ho, _⟩ := mem_ready.1 hi
    have hlt := (Array.getElem?_eq_some_iff.1 ho).1
    have h1 := hall i hlt
    have : i < listed.size := by omega
    simp [Array.getD, this] at h0 h1
    rw [h0] at h1
    cases h1
  | succ fuel ih =>
    intro listed x w1 hsh hu hsz hw hG
    refine ⟨fun hr => hend x w1 hw fun j hj => hG j hj (inv_all hok hsz hr (j + 1) j (Nat.lt_succ_self j) hj), fun i hi => ?_⟩
    obtain ⟨h0, o, ho, hall⟩ := mem_ready.1 hi
    have hlt := (Array.getElem?_eq_some_iff.1 ho).1
    obtain ⟨d, hd, hdo, hasc⟩ := okInv_at hok ho
    refine wpOp_mono (fun a' w' h => ?_) (hstep i hlt x w1 hw fun j hj => ?_)
    · obtain ⟨hr, y, hg, rfl⟩ := h
      rw [hd, fillA_upd ds 0 x a i y hn (Nat.zero_le _) d (by simpa using hd)]
      refine ih _ _ _ (hsh.ready hi) (by have := unl_set hlt h0; omega) (by simpa using hsz) (H0.trans hw (hR _ _ _ hr)) fun j hj hl => ?_
      by_cases hji : j = i
      · subst hji
        rw [updV_same]
        exact hg
      · rw [updV_ne x y hji]
        rw [getD_set_ne false (Ne.symm hji)] at hl
        refine hst i j _ _ _ hji ?_ hr (hG j hj hl)
        cases hdp : depB ops j i with
        | false => rfl
        | true =>
          exfalso
          unfold depB at hdp
          rw [Array.getElem?_eq_getElem hj] at hdp
          simp only [Array.any_eq_true', Bool.and_eq_true, beq_iff_eq] at hdp
          obtain ⟨e, he, hb, hei⟩ := hdp
          have h2 := hsh j _ (Array.getElem?_eq_getElem hj) hl e he hb
          rw [hei] at h2
          have h3 : i < listed.size := by omega
          simp [Array.getD, h3] at h0 h2
          rw [h0] at h2
          cases h2
    · unfold depB at hj
      rw [ho] at hj
      simp only [Array.any_eq_true', Bool.and_eq_true, beq_iff_eq] at hj
      obtain ⟨e, he, hb, rfl⟩ := hj
      exact hG _ (by have := hasc e he hb; omega) (hall e he hb)
/-- the region -/
theorem wp_region_inv (ds : List Nat) {id : Nat} {a : Act} {w : World} (hm : P.follows .mixedOrders = true) (hok : okInv ops ds = true) (hn : nodupB ds = true) {R0 : World → World → Prop} (H0 : Way R0) (R : Nat → World → World → Prop)
    (hR : ∀ i w w', R i w w' → R0 w w') (G : Nat → Value → World → Prop) (hst : ∀ i j v w w', j ≠ i → depB ops j i = false → R i w w' → G j v w → G j v w')
    (hstep : ∀ i, i < ops.size → ∀ x w1, R0 w.drew w1 → (∀ j, depB ops i j = true → G j (x j) w1) → wpOp P ops Q i (fun a' w' => R i w1 w' ∧ ∃ y, G i y w' ∧ a' = (fillA ds 0 x a).put ds[i]? y) (fillA ds 0 x a) w1)
    (hend : ∀ x w1, R0 w.drew w1 → (∀ j, j < ops.size → G j (x j) w1) → Q .normal (fillA ds 0 x a) w1) : (Code.region id ops true).wp P Q a w := by
  refine wp_region_any hm ?_
  have hself : fillA ds 0 (fun j => a.tmps.getD (ds.getD j 0) undef) a = a := fillA_self ds 0 _ a fun j d hj => by
    show a.tmps.getD (ds.getD (0 + j) 0) undef = _
    rw [Nat.zero_add, List.getD_eq_getElem?_getD, hj]
    rfl
  rw [← hself]
  refine inv_any ds hok (nodup_of ds hn) H0 hR hst (fun i hi x w1 h1 h2 => ?_) (fun x w1 h1 h2 => ?_) _ _ _ _ (shut_none ops ops.size) ?_ (by simp) (H0.refl _) fun j hj hl => ?_
  · exact hstep i hi x w1 h1 h2
  · exact hend x w1 h1 h2
  · refine Nat.le_trans (List.length_filter_le _ _) ?_
    simp
  · simp [Array.getD] at hl
/-- the region, the slots laid out: hF by simp -/
theorem wp_region_invF (ds : List Nat) {id : Nat} {a : Act} {w : World} {F : (Nat → Value) → Act} (hF : ∀ x, fillA ds 0 x a = F x) (hm : P.follows .mixedOrders = true) (hok : okInv ops ds = true) (hn : nodupB ds = true) {R0 : World → World → Prop} (H0 : Way R0) (R : Nat → World → World → Prop)
    (hR : ∀ i w w', R i w w' → R0 w w') (G : Nat → Value → World → Prop) (hst : ∀ i j v w w', j ≠ i → depB ops j i = false → R i w w' → G j v w → G j v w')
    (hstep : ∀ i, i < ops.size → ∀ x w1, R0 w.drew w1 → (∀ j, depB ops i j = true → G j (x j) w1) → wpOp P ops Q i (fun a' w' => R i w1 w' ∧ ∃ y, G i y w' ∧ a' = (F x).put ds[i]? y) (F x) w1)
    (hend : ∀ x w1, R0 w.drew w1 → (∀ j, j < ops.size → G j (x j) w1) → Q .normal (F x) w1) : (Code.region id ops true).wp P Q a w :=
  wp_region_inv ds hm hok hn H0 R hR G hst (fun i hi x w1 h1 h2 => by rw [hF]; exact hstep i hi x w1 h1 h2) (fun x w1 h1 h2 => by rw [hF]; exact hend x w1 h1 h2)
theorem wp_val {o : Oper} {a : Act} {w w' : World} {K : Act → World → Prop} {v : Value} (h : (execOp a.eval o).run P w = .ok (.value v) w') (hK : K (a.put o.dst v) w') : o.wp P a w K Q := by
  unfold Oper.wp
  rw [h]
  exact hK
/-- an operation that comes up -/
theorem inv_op {ds : List Nat} {R1 : World → World → Prop} {G1 : Value → World → Prop} {i : Nat} {A : Act} {w : World} {o : Oper} (hi : ops[i]? = some o) (hd : ds[i]? = o.dst) (hw : Region.wanted o (yielded ops A.tmps) = true)
    (h : ∀ K : Act → World → Prop, (∀ y w', R1 w w' → G1 y w' → K (A.put o.dst y) w') → o.wp P A w K Q) : wpOp P ops Q i (fun a' w' => R1 w w' ∧ ∃ y, G1 y w' ∧ a' = A.put ds[i]? y) A w := by
  unfold wpOp
  simp only [hi, hw, if_true]
  exact .inl (h _ fun y w' h1 h2 => ⟨h1, y, h2, by rw [hd]⟩)
theorem inv_pass {ds : List Nat} {R1 : World → World → Prop} {G1 : Value → World → Prop} {i : Nat} {A : Act} {w : World} {o : Oper} (hi : ops[i]? = some o) (hd : ds[i]? = o.dst) (hw : Region.wanted o (yielded ops A.tmps) = false)
    (hr : R1 w w) (h : G1 undef w) : wpOp P ops Q i (fun a' w' => R1 w w' ∧ ∃ y, G1 y w' ∧ a' = A.put ds[i]? y) A w := by
  unfold wpOp
  simp only [hi, hw, Bool.false_eq_true, if_false]
  exact ⟨hr, undef, h, by rw [hd]⟩
end
end Go.Proofs.Ytmdmhjcdaejlkaa
