/- The bank: states and places, plainly. -/
import Derived.Test.YtmdmhjcdaejlkaaBankE
set_option linter.unusedVariables false
set_option linter.unusedSimpArgs false
namespace Go.Proofs.Ytmdmhjcdaejlkaa

/-- no bit from N on, ahead of k -/
def lpOk (N : Nat) (xs : List UInt8) (k : Nat) : Bool := decide (xs.length = (N + 7) / 8) && (List.range k).all fun i => decide (i < N) || !bitN xs i
theorem lpOk_iff (N : Nat) (xs : List UInt8) (k : Nat) : lpOk N xs k = true ↔ xs.length = (N + 7) / 8 ∧ ∀ i, N ≤ i → i < k → bitN xs i = false := by
  unfold lpOk
  rw [Bool.and_eq_true, decide_eq_true_iff, List.all_eq_true]
  refine and_congr Iff.rfl ⟨fun h i h1 h2 => ?_, fun h i hi => ?_⟩
  · have := h i (List.mem_range.2 h2)
    simpa [show ¬ i < N by omega] using this
  · by_cases c : i < N
    · simp [c]
    · simp [h i (by omega) (List.mem_range.1 hi)]
theorem lpOk_first (N : Nat) (xs : List UInt8) : lpOk N xs N = decide (xs.length = (N + 7) / 8) := by
  rw [Bool.eq_iff_iff, lpOk_iff, decide_eq_true_iff]
  exact ⟨fun h => h.1, fun h => ⟨h, fun i h1 h2 => absurd h2 (by omega)⟩⟩
theorem lpOk_step (N : Nat) (xs : List UInt8) (k : Nat) (hk : N ≤ k) (h : lpOk N xs k = true) : lpOk N xs (k + 1) = !bitN xs k := by
  have h := (lpOk_iff _ _ _).1 h
  cases hb : bitN xs k with
  | true =>
    show lpOk N xs (k + 1) = false
    rw [Bool.eq_false_iff]
    intro hc
    have := ((lpOk_iff _ _ _).1 hc).2 k hk (by omega)
    rw [hb] at this
    cases this
  | false =>
    refine (lpOk_iff _ _ _).2 ⟨h.1, fun i h1 h2 => ?_⟩
    by_cases e : i = k
    · rw [e]; exact hb
    · exact h.2 i h1 (by omega)
theorem div_zero_iff (x : UInt8) (r : Nat) (hr : r < 8) : x.toNat / 2 ^ r = 0 ↔ ∀ b, r ≤ b → b < 8 → x.toNat / 2 ^ b % 2 = 0 := by
  have H : ∀ r : Fin 8, ∀ y : Fin 256, (y.val / 2 ^ r.val = 0 ↔ ∀ b : Fin 8, r.val ≤ b.val → y.val / 2 ^ b.val % 2 = 0) := by decide +kernel
  have := H ⟨r, hr⟩ ⟨x.toNat, x.toNat_lt⟩
  exact this.trans ⟨fun h b h1 h2 => h ⟨b, h2⟩ h1, fun h b h1 => h b.val h1 b.isLt⟩
theorem lpOk_last (N : Nat) (xs : List UInt8) (hl : xs.length = (N + 7) / 8) : lpOk N xs (8 * xs.length) = okLd N xs := by
  unfold okLd
  rw [Bool.eq_iff_iff, lpOk_iff, decide_eq_true_iff]
  refine ⟨fun h => ⟨h.1, ?_⟩, fun h => ⟨h.1, fun i h1 h2 => ?_⟩⟩
  · by_cases hr : N % 8 = 0
    · exact .inl hr
    · right
      rw [div_zero_iff _ _ (Nat.mod_lt _ (by decide))]
      intro b h1 h2
      have := h.2 (8 * (xs.length - 1) + b) (by omega) (by omega)
      unfold bitN at this
      rw [show (8 * (xs.length - 1) + b) / 8 = xs.length - 1 by omega, show (8 * (xs.length - 1) + b) % 8 = b by omega] at this
      have := of_decide_eq_false this
      omega
  · have hr : N % 8 ≠ 0 := by omega
    have h3 := h.2.resolve_left hr
    rw [div_zero_iff _ _ (Nat.mod_lt _ (by decide))] at h3
    have := h3 (i % 8) (by omega) (by omega)
    unfold bitN
    rw [show i / 8 = xs.length - 1 by omega, this]
    rfl
theorem lpOk_no (N : Nat) (xs : List UInt8) (k : Nat) (hk : k ≤ 8 * xs.length) (h : lpOk N xs k = false) : okLd N xs = false := by
  by_cases hl : xs.length = (N + 7) / 8
  · rw [← lpOk_last N xs hl]
    rw [Bool.eq_false_iff] at h ⊢
    intro hc
    have hc := (lpOk_iff _ _ _).1 hc
    exact h ((lpOk_iff _ _ _).2 ⟨hl, fun i h1 h2 => hc.2 i h1 (by omega)⟩)
  · exact decide_eq_false fun hc => hl hc.1
theorem okLd_len {N : Nat} {xs : List UInt8} (h : okLd N xs = true) : xs.length = (N + 7) / 8 := (of_decide_eq_true h).1
/-- what was loaded is told -/
theorem st_ld (N : Nat) (xs : List UInt8) (h : okLd N xs = true) : stL (ldL N xs) = xs := by
  have hl := okLd_len h
  rw [← lpOk_last N xs hl] at h
  have h := ((lpOk_iff _ _ _).1 h).2
  unfold stL
  rw [ldL_length]
  apply List.ext_getElem?
  intro j
  rcases Nat.lt_or_ge j xs.length with c | c
  · rw [stU_get _ _ _ _ (by omega), List.getElem?_eq_getElem c]
    congr 1
    have e : ∀ b, b < 8 → (decide (8 * j + b < N) && ((ldL N xs)[8 * j + b]?.getD (false, false)).1) = decide (xs[j].toNat / 2 ^ b % 2 = 1) := by
      intro b hb
      have e1 : bitN xs (8 * j + b) = decide (xs[j].toNat / 2 ^ b % 2 = 1) := by
        unfold bitN
        rw [show (8 * j + b) / 8 = j by omega, show (8 * j + b) % 8 = b by omega, List.getElem?_eq_getElem c]
        rfl
      by_cases hc : 8 * j + b < N
      · rw [ldL_get _ _ _ hc, ← e1]
        simp [hc]
      · rw [← e1, h _ (by omega) (by omega)]
        simp [hc]
    rw [byteN_ext e, byteN_of _ (UInt8.toNat_lt _)]
    simp
  · rw [List.getElem?_eq_none (by rw [stU_length]; omega), List.getElem?_eq_none c]
/-- a state tells the first ones alone -/
theorem stL_map {l l' : List (Bool × Bool)} (h : l.map (·.1) = l'.map (·.1)) : stL l = stL l' := by
  have hl : l.length = l'.length := by simpa using congrArg List.length h
  unfold stL stU
  rw [hl]
  apply List.map_congr_left
  intro j _
  congr 1
  apply byteN_ext
  intro b _
  have := congrArg (fun m : List Bool => m[8 * j + b]?) h
  simp only [List.getElem?_map] at this
  congr 1
  cases h1 : l[8 * j + b]? <;> cases h2 : l'[8 * j + b]? <;> simp_all
theorem stL_length (l : List (Bool × Bool)) : (stL l).length = (l.length + 7) / 8 := stU_length _ _ _
theorem bit_st (l : List (Bool × Bool)) (i : Nat) (hi : i < l.length) : bitN (stL l) i = (l[i]?.getD (false, false)).1 := by
  unfold bitN stL
  rw [stU_get _ _ _ _ (by omega)]
  have h2 := byteN_lt fun b => decide (8 * (i / 8) + b < l.length) && (l[8 * (i / 8) + b]?.getD (false, false)).1
  rw [Option.getD_some, UInt8.toNat_ofNat_of_lt' h2, byteN_bit _ _ (Nat.mod_lt _ (by decide)), show 8 * (i / 8) + i % 8 = i by omega]
  simp only [hi, decide_true, Bool.true_and]
  cases (l[i]?.getD (false, false)).1 <;> rfl
/-- what was told is loaded -/
theorem ok_st (l : List (Bool × Bool)) : okLd l.length (stL l) = true := by
  rw [← lpOk_last _ _ (stL_length l)]
  refine (lpOk_iff _ _ _).2 ⟨stL_length l, fun i h1 h2 => ?_⟩
  rw [stL_length] at h2
  unfold bitN stL
  rw [stU_get _ _ _ _ (by omega)]
  have h3 := byteN_lt fun b => decide (8 * (i / 8) + b < l.length) && (l[8 * (i / 8) + b]?.getD (false, false)).1
  rw [Option.getD_some, UInt8.toNat_ofNat_of_lt' h3, byteN_bit _ _ (Nat.mod_lt _ (by decide)), show 8 * (i / 8) + i % 8 = i by omega]
  have : ¬ i < l.length := by omega
  simp [this]
theorem ld_st (l : List (Bool × Bool)) : ldL l.length (stL l) = l.map fun p => (p.1, false) := by
  apply List.ext_getElem?
  intro j
  rcases Nat.lt_or_ge j l.length with c | c
  · rw [ldL_get _ _ _ c, bit_st _ _ c, List.getElem?_map, List.getElem?_eq_getElem c]
    rfl
  · rw [List.getElem?_eq_none (by rw [ldL_length]; exact c), List.getElem?_eq_none (by rw [List.length_map]; exact c)]
end Go.Proofs.Ytmdmhjcdaejlkaa
