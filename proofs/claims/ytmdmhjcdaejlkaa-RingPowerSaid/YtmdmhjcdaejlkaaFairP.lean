/- Loose writes as the trace tells them; fair choices: plain laws. -/
import Derived.Test.YtmdmhjcdaejlkaaGarb
set_option linter.unusedVariables false
namespace Go.Proofs.Ytmdmhjcdaejlkaa

def wrF (bl : Int) (e : Ev) : Option (Int × List UInt8) := if e.kind = 2 ∧ 0 ≤ e.at_ ∧ e.at_ < bl then some (e.at_, e.body) else none
def wrsF (bl : Int) (es : List Ev) : List (Int × List UInt8) := es.filterMap (wrF bl)
/-- behind the last flush or crash of the first i steps -/
def fromN (t : List Ev) : Nat → Nat
  | 0 => 0
  | i + 1 => match t[i]? with
    | some e => if e.kind = 3 ∨ e.kind = 4 then i + 1 else fromN t i
    | none => fromN t i
theorem fromN_le (t : List Ev) (i : Nat) : fromN t i ≤ i := by
  induction i with
  | zero => exact Nat.le_refl _
  | succ i ih =>
    unfold fromN
    split
    · split
      · exact Nat.le_refl _
      · omega
    · omega
theorem fromN_app (t u : List Ev) (i : Nat) (h : i ≤ t.length) : fromN (t ++ u) i = fromN t i := by
  induction i with
  | zero => rfl
  | succ i ih =>
    unfold fromN
    rw [List.getElem?_append_left (by omega), ih (by omega)]
theorem fromN_end {t : List Ev} {i : Nat} {e : Ev} (h : t[i]? = some e) (he : e.kind = 3 ∨ e.kind = 4) : fromN t (i + 1) = i + 1 := by
  rw [fromN, h]; exact if_pos he
theorem fromN_go {t : List Ev} {i : Nat} {e : Ev} (h : t[i]? = some e) (he : ¬ (e.kind = 3 ∨ e.kind = 4)) : fromN t (i + 1) = fromN t i := by
  rw [fromN, h]; exact if_neg he
/-- what is loose is what the trace tells -/
structure LooseT (D : Dk) : Prop where
  eq : D.loose = wrsF D.blocks (D.trace.drop (fromN D.trace D.trace.length))
theorem looseT_new (bl sz : Int) : LooseT (dkNew bl sz) := ⟨rfl⟩
theorem looseT_step {D D' : Dk} (h : LooseT D) (e : Ev) (hb : D'.blocks = D.blocks) (ht : D'.trace = D.trace ++ [e]) (hl : D'.loose = if e.kind = 3 ∨ e.kind = 4 then [] else D.loose ++ (wrF D.blocks e).toList) : LooseT D' := by
  have hle := fromN_le D.trace D.trace.length
  have hi : (D.trace ++ [e])[D.trace.length]? = some e := by simp
  refine ⟨?_⟩
  rw [hl, ht, hb, List.length_append, List.length_singleton]
  by_cases hk : e.kind = 3 ∨ e.kind = 4
  · rw [if_pos hk, fromN_end hi hk, List.drop_of_length_le (by simp)]
    rfl
  · rw [if_neg hk, fromN_go hi hk, fromN_app _ _ _ (Nat.le_refl _), List.drop_append_of_le_length hle, h.eq]
    unfold wrsF
    rw [List.filterMap_append]
    refine congrArg (List.filterMap (wrF D.blocks) (List.drop (fromN D.trace D.trace.length) D.trace) ++ ·) ?_
    cases hw : wrF D.blocks e with
    | none => simp [hw]
    | some x => simp [hw]
theorem LooseT.read {D : Dk} (h : LooseT D) (a : Int) : LooseT (D.read a) := looseT_step h ⟨1, a, headL (D.at_ D.now a), []⟩ rfl rfl (by simp [wrF]; rfl)
theorem LooseT.write {D : Dk} (h : LooseT D) (a : Int) (xs : List UInt8) : LooseT (D.write a xs) := by
  refine looseT_step h ⟨2, a, headL (fitL D.size xs), fitL D.size xs⟩ (write_blocks _ _ _) (write_trace _ _ _) ?_
  rw [if_neg (by show ¬ ((2 : Int) = 3 ∨ (2 : Int) = 4); decide)]
  by_cases hh : D.has a = true
  · rw [write_loose hh]
    have : 0 ≤ a ∧ a < D.blocks := by simpa [Dk.has] using hh
    simp [wrF, this]
  · have e1 : (D.write a xs).loose = D.loose := by unfold Dk.write; rw [if_neg hh]; rfl
    rw [e1]
    have : ¬ (0 ≤ a ∧ a < D.blocks) := by simpa [Dk.has] using hh
    have e2 : wrF D.blocks ⟨2, a, headL (fitL D.size xs), fitL D.size xs⟩ = none := if_neg (fun q => this ⟨q.2.1, q.2.2⟩)
    rw [e2]; simp
theorem LooseT.flush {D : Dk} (h : LooseT D) : LooseT D.flush := looseT_step h ⟨3, 0, headL [], []⟩ rfl rfl (by rw [if_pos (.inl rfl)]; rfl)
theorem LooseT.crash {D : Dk} (h : LooseT D) (ch : List Int) : LooseT (D.crash ch) := looseT_step h ⟨4, 0, headL [], []⟩ rfl rfl (by rw [if_pos (.inr rfl)]; rfl)
theorem LooseT.cut {D : Dk} (h : LooseT D) (k : Int) : LooseT (D.cut k) := ⟨h.eq⟩
theorem LooseT.dead {D : Dk} (h : LooseT D) : LooseT D.dead := ⟨h.eq⟩
/-- a choice, made fair -/
def fairC (key : List UInt8) (c : Int) (x : List UInt8) : Int := if (openL key (garL x)).isSome = true ∧ c = 2 then 0 else c
def fairL (key : List UInt8) (ch : List Int) (ws : List (Int × List UInt8)) : List Int := ws.mapIdx fun j x => fairC key (chs ch j) x.2
theorem fairL_length (key : List UInt8) (ch : List Int) (ws : List (Int × List UInt8)) : (fairL key ch ws).length = ws.length := by simp [fairL]
theorem fairL_snoc (key : List UInt8) (ch : List Int) (ws : List (Int × List UInt8)) (x : Int × List UInt8) : fairL key ch (ws ++ [x]) = fairL key ch ws ++ [fairC key (chs ch ws.length) x.2] := by
  unfold fairL
  rw [List.mapIdx_append]
  simp
theorem chs_rng (ch : List Int) (j : Nat) : 0 ≤ chs ch j ∧ chs ch j < 3 := by
  unfold chs
  split <;> omega
theorem fairC_range (key : List UInt8) {c : Int} (h : 0 ≤ c ∧ c < 3) (x : List UInt8) : 0 ≤ fairC key c x ∧ fairC key c x < 3 := by
  unfold fairC
  split <;> omega
/-- choices of which none has a block that was garbled open -/
structure FairOk (key : List UInt8) (D : Dk) (out : List Int) : Prop where
  ok : ∀ (j : Nat) (x : Int × List UInt8), D.loose[j]? = some x → chs out j = 2 → openL key (garL x.2) = none
  rg : ∀ c ∈ out, -9223372036854775808 ≤ c ∧ c ≤ 9223372036854775807
theorem fair_ok (key : List UInt8) (ch : List Int) (D : Dk) : FairOk key D (fairL key ch D.loose) := by
  refine ⟨fun j x hx h2 => ?_, fun c hc => ?_⟩
  · unfold chs at h2
    have hg : (fairL key ch D.loose)[j]? = some (fairC key (chs ch j) x.2) := by
      unfold fairL
      rw [List.getElem?_mapIdx, hx]
      rfl
    rw [hg] at h2
    have hr := fairC_range key (chs_rng ch j) x.2
    have h3 : fairC key (chs ch j) x.2 = 2 := by
      have : fairC key (chs ch j) x.2 % 3 = 2 := h2
      omega
    unfold fairC at h3
    split at h3
    · cases h3
    · rename_i hn
      cases ho : openL key (garL x.2) with
      | none => rfl
      | some y => exact absurd ⟨by rw [ho]; rfl, h3⟩ hn
  · unfold fairL at hc
    obtain ⟨j, hj, rfl⟩ := List.mem_mapIdx.1 hc
    have := fairC_range key (chs_rng ch j) (D.loose[j]).2
    omega
end Go.Proofs.Ytmdmhjcdaejlkaa
