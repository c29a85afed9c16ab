/- The walk of FlotOrder. -/
import Derived.Test.YtldeohbfhigagaaLawBits
import Derived.Test.YtldeohbfhigagaaLin
import Derived.Test.YtldeohbfhigagaaFltQ
set_option linter.unusedVariables false
set_option linter.unusedSimpArgs false
namespace Go.Proofs.Ytldeohbfhigagaa
open Go.RowKit Flo

/-- Bytes of a number that is one already; and the string of them, then and later -/
theorem c_bytesO (x : Nat) (w : World) (hx : oneB x = x) (hw : W64 x) :
    Calls Try.prog 22 #[.float .f64 x] w fun e w' => ∃ A c, e = .returned (.slice A 8 c) ∧ RdB w' A 8 (leP x 8) ∧ Below w.heap.size w w' ∧
      (∀ W, Below w'.heap.size w' W → (convert 31 9 (.slice A 8 c)).run Try.prog W = .ok (.string (strB (leP x 8))) W) ∧ (convert 31 9 (.slice A 8 c)).run Try.prog w' = .ok (.string (strB (leP x 8))) w' :=
  (c_bytes8 x w).mono fun e w' ⟨A, c, he, hr, hb⟩ => by
    rw [hx] at hr
    have hs : ∀ W, Below w'.heap.size w' W → (convert 31 9 (.slice A 8 c)).run Try.prog W = .ok (.string (strB (leP x 8))) W :=
      fun W hW => run_str W 31 5 Try.underlying31 Try.underlying5 A 8 c _ (hr.below hW (Nat.le_refl _)) 9 Try.underlying9
    exact ⟨A, c, he, hr, hb, hs, hs w' (Below.refl _ _)⟩
theorem c_ofO (A : Option Addr) (c n : Nat) (w : World) (hx : oneB n = n) (hn : W64 n) (h : RdB w A 8 (leP n 8)) :
    Calls Try.prog 21 #[.slice A 8 c] w fun e w' => e = .returned (.float .f64 n) ∧ w = w' := by
  have := c_of8 A c n w hn h
  rwa [hx] at this
set_option maxHeartbeats 4000000 in
theorem w_order0 (a b c x y z : Nat) (w : World) (ha : W64 a) (hb : W64 b) (hc : W64 c) (hx : oneB (numB a) = x) (hy : oneB (numB b) = y) (hz : oneB (numB c) = z) (p q r : Bool)
    (l1 : lessB x y = p) (l2 : lessB y x = q) (l4 : lessB y z = r) (l5 : (p && r) = true → lessB x z = true) (lq : (p && q) = false) (le : (p == q) = true → decide (x = y) = true) :
    Calls Try.prog 8 #[.int .u64 (a : Int), .int .u64 (b : Int), .int .u64 (c : Int)] w fun e w' => e = .returned (.bool true) ∧ Below w.heap.size w w' := by
  have ma := numB_lt a ha
  have mb := numB_lt b hb
  have mc := numB_lt c hc
  have mx : W64 x := hx ▸ w64_one _ ma
  have my : W64 y := hy ▸ w64_one _ mb
  have mz : W64 z := hz ▸ w64_one _ mc
  have ox : oneB x = x := by rw [← hx, oneB_one]
  have hadd := addB_comm y x
  have HX : Hid (oneB x = x) := ox
  have l3 := less_irr x
  clear ox
  cases p <;> cases q <;> cases r <;> simp at l5 lq le
  all_goals try (obtain rfl := le)
  all_goals
    go_enter Try.func8, Try.ntmps8
    go_wp2_with (first | (go_at_call 30; refine (c_number _ _ (by assumption)).mono ?_; rintro e w' ⟨rfl, rfl⟩) | (go_at_call 20; refine (c_rOne _ _).mono ?_; rintro e w' ⟨rfl, rfl⟩) | (go_at_call 24; refine (c_less _ _ _ (by assumption) (by assumption)).mono ?_; rintro e w' ⟨rfl, rfl⟩) | (go_at_call 18; refine (c_alike _ _ _).mono ?_; rintro e w' ⟨rfl, rfl⟩))
    (refine wp_region_lin [(0, true), (1, true), (3, true), (4, true), (2, false), (5, false), (6, false), (7, true), (8, true), (13, true), (9, false), (10, false), (11, false), (12, true), (14, false), (15, true), (16, true), (17, true), (18, true), (19, true), (22, true), (20, false), (21, false), (23, false), (24, true), (25, true), (26, false), (27, true), (28, true)] rfl rfl (by kernel_rfl) (by kernel_rfl) (fun _ _ _ _ _ h => h) ?_; (iterate 29 (first | (apply lin_take; (simp only [List.getElem?_toArray, List.getElem?_cons_succ, List.getElem?_cons_zero]; rfl); (rfl); (intro w' hb'; (first | (go_simp; done) | (go_simp; with_reducible rfl) | (go_simp; go_bits; with_reducible rfl) | (go_simp; go_bits; done))); try simp only [Act.put, List.setIfInBounds_toArray, List.set_cons_zero, List.set_cons_succ]) | (apply lin_skip; (simp only [List.getElem?_toArray, List.getElem?_cons_succ, List.getElem?_cons_zero]; rfl); (rfl); try simp only [Act.put, List.setIfInBounds_toArray, List.set_cons_zero, List.set_cons_succ]) | (apply lin_pass; (simp only [List.getElem?_toArray, List.getElem?_cons_succ, List.getElem?_cons_zero]; rfl); (rfl); try simp only [Act.put, List.setIfInBounds_toArray, List.set_cons_zero, List.set_cons_succ]) | (apply lin_op; (simp only [List.getElem?_toArray, List.getElem?_cons_succ, List.getElem?_cons_zero]; rfl); (rfl); intro K hK; go_simp; (first | (go_at_call 19; refine (c_add _ _ _).mono ?_; rintro e w' ⟨rfl, k, rfl⟩) | (go_at_call 18; refine (c_alike _ _ _).mono ?_; rintro e w' ⟨rfl, rfl⟩) | (go_at_call 22; refine (c_bytesO x _ HX.out (by assumption)).mono ?_; rintro e w1 ⟨A, c, rfl, hr, hb, hs, hs1⟩) | (go_at_call 21; refine (c_ofO _ _ x _ HX.out (by assumption) (by assumption)).mono ?_; rintro e w' ⟨rfl, rfl⟩) | (go_at_call 23; refine (c_awake5 _).mono ?_; rintro e w1 ⟨rfl, hb⟩) | skip); refine hK _ _ ?_ ?_; (first | exact ⟨rfl, rfl, rfl, Nat.le_refl _, fun _ _ => rfl⟩ | assumption | exact below_alloc (Below.refl _ _) _ | exact below_drewN (by assumption) _); clear hK; try simp only [Act.put, List.setIfInBounds_toArray, List.set_cons_zero, List.set_cons_succ]))); refine lin_end ?_)
    go_wp2
    go_ret
    refine ⟨rfl, ?_⟩
    (repeat (first | exact Below.refl _ _ | exact ⟨rfl, rfl, rfl, Nat.le_refl _, fun _ _ => rfl⟩ | refine below_alloc ?_ _ | refine below_drewN ?_ _ | refine below_drew ?_ | refine below_two ?_ (by assumption)))
theorem w_FlotOrder (a b c : Int) (w : World) (w0 : (Lit.int .u64 a).wf = true) (w1 : (Lit.int .u64 b).wf = true) (w2 : (Lit.int .u64 c).wf = true) :
    Calls Try.prog 8 #[.int .u64 a, .int .u64 b, .int .u64 c] w fun e w' => e = .returned (.bool true) ∧ Below w.heap.size w w' := by
  obtain ⟨a, rfl, ha⟩ := of_wf_u64 w0
  obtain ⟨b, rfl, hb⟩ := of_wf_u64 w1
  obtain ⟨c, rfl, hc⟩ := of_wf_u64 w2
  refine w_order0 a b c _ _ _ w ha hb hc rfl rfl rfl _ _ _ rfl rfl rfl ?_ ?_ ?_
  · intro h
    rw [Bool.and_eq_true] at h
    exact less_trans h.1 h.2
  · by_cases e : oneB (numB a) = oneB (numB b)
    · rw [e, less_irr]; rfl
    · rw [less_tot (oneB_one _) (oneB_one _) (w64_one _ (numB_lt a ha)) (w64_one _ (numB_lt b hb)) e]
      cases lessB (oneB (numB b)) (oneB (numB a)) <;> rfl
  · intro h
    by_cases e : oneB (numB a) = oneB (numB b)
    · exact decide_eq_true e
    · rw [less_tot (oneB_one _) (oneB_one _) (w64_one _ (numB_lt a ha)) (w64_one _ (numB_lt b hb)) e] at h
      cases hx : lessB (oneB (numB b)) (oneB (numB a)) <;> rw [hx] at h <;> cases h
end Go.Proofs.Ytldeohbfhigagaa
