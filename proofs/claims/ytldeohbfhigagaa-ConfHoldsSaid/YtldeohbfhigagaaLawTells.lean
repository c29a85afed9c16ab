/- The walk of FlotTells. -/
import Derived.Test.YtldeohbfhigagaaLawOrd
import Derived.Test.YtldeohbfhigagaaRow
set_option linter.unusedVariables false
set_option linter.unusedSimpArgs false
namespace Go.Proofs.Ytldeohbfhigagaa
open Go.RowKit Flo

theorem c_bytesS (x : Nat) (w : World) :
    Calls Try.prog 22 #[.float .f64 x] w fun e w' => ∃ A c, e = .returned (.slice A 8 c) ∧ RdB w' A 8 (leP (oneB x) 8) ∧ Below w.heap.size w w' ∧
      (∀ W, Below w'.heap.size w' W → (convert 31 9 (.slice A 8 c)).run Try.prog W = .ok (.string (strB (leP (oneB x) 8))) W) ∧ (convert 31 9 (.slice A 8 c)).run Try.prog w' = .ok (.string (strB (leP (oneB x) 8))) w' :=
  (c_bytes8 x w).mono fun e w' ⟨A, c, he, hr, hb⟩ => by
    have hs : ∀ W, Below w'.heap.size w' W → (convert 31 9 (.slice A 8 c)).run Try.prog W = .ok (.string (strB (leP (oneB x) 8))) W :=
      fun W hW => run_str W 31 5 Try.underlying31 Try.underlying5 A 8 c _ (hr.below hW (Nat.le_refl _)) 9 Try.underlying9
    exact ⟨A, c, he, hr, hb, hs, hs w' (Below.refl _ _)⟩
theorem c_rBytesS (x : Nat) (w : World) :
    Calls Try.prog 31 #[.float .f64 x] w fun e w' => ∃ A c, e = .returned (.slice A 8 c) ∧ RdB w' A 8 (leP (oneB x) 8) ∧ Below w.heap.size w w' ∧
      (∀ W, Below w'.heap.size w' W → (convert 31 9 (.slice A 8 c)).run Try.prog W = .ok (.string (strB (leP (oneB x) 8))) W) ∧ (convert 31 9 (.slice A 8 c)).run Try.prog w' = .ok (.string (strB (leP (oneB x) 8))) w' :=
  (c_rBytes x w).mono fun e w' ⟨v, he, ho, hb⟩ => by
    obtain ⟨A, c, rfl, _, _, hr⟩ := ho.form
    rw [leP_length] at he hr
    have hs : ∀ W, Below w'.heap.size w' W → (convert 31 9 (.slice A 8 c)).run Try.prog W = .ok (.string (strB (leP (oneB x) 8))) W :=
      fun W hW => run_str W 31 5 Try.underlying31 Try.underlying5 A 8 c _ (hr.below hW (Nat.le_refl _)) 9 Try.underlying9
    exact ⟨A, c, he, hr, hb, hs, hs w' (Below.refl _ _)⟩
theorem c_rOf8 (A : Option Addr) (c n : Nat) (w : World) (hn : W64 n) (h : RdB w A 8 (leP n 8)) :
    Calls Try.prog 32 #[.slice A 8 c] w fun e w' => e = .returned (.float .f64 (oneB n)) ∧ w = w' :=
  (c_rOf A 8 c _ w h (by decide)).mono fun e w' ⟨he, hw⟩ => by
    have : ofB (leP n 8) = oneB n := by unfold ofB; rw [if_pos (leP_length _ _), leN_leP64 n hn]
    rw [this] at he
    exact ⟨he, hw⟩

set_option maxHeartbeats 4000000 in
theorem w_tells0 (a b : Nat) (A0 : Option Addr) (n cap : Nat) (xs : List UInt8) (w : World) (ha : W64 a) (hb : W64 b) (hR : RdB w A0 n xs) (hm : n ≤ maxLen) :
    Calls Try.prog 7 #[.int .u64 (a : Int), .int .u64 (b : Int), .slice A0 n cap] w fun e w' => e = .returned (.bool true) ∧ Below w.heap.size w w' := by
  have ma := numB_lt a ha
  have mb := numB_lt b hb
  by_cases hl : 100 < n
  · go_enter Try.func7, Try.ntmps7
    go_wp2_with (first | (go_at_call 23; refine (c_awake5 _).mono ?_; rintro e w1 ⟨rfl, hb⟩))
    go_ret
    exact ⟨rfl, by assumption⟩
  · go_enter Try.func7, Try.ntmps7
    go_wp2_with (first | (go_at_call 30; refine (c_number _ _ (by assumption)).mono ?_; rintro e w' ⟨rfl, rfl⟩))
    (refine wp_region_lin [(0, true), (3, true), (1, false), (2, true), (4, false), (5, true), (6, true), (7, true), (8, true), (10, true), (9, false), (11, false), (12, false), (13, true), (14, true), (15, true), (18, true), (16, false), (17, false), (19, false), (20, false), (21, false), (22, true), (23, true), (24, true), (25, true), (27, true), (28, true), (26, false), (29, false), (30, false), (31, true), (32, true), (33, true), (34, true), (36, true), (37, true), (35, false), (38, false), (39, true), (40, true), (41, true), (42, false), (43, true), (44, true)] rfl rfl (by kernel_rfl) (by kernel_rfl) (fun _ _ _ _ _ h => h) ?_; (iterate 45 (first | (apply lin_take; (simp only [List.getElem?_toArray, List.getElem?_cons_succ, List.getElem?_cons_zero]; rfl); (rfl); (intro w' hb'; (first | (go_simp; done) | (go_simp; with_reducible rfl) | (go_simp; go_bits; with_reducible rfl) | (go_simp; go_bits; done))); try simp only [Act.put, List.setIfInBounds_toArray, List.set_cons_zero, List.set_cons_succ]) | (apply lin_skip; (simp only [List.getElem?_toArray, List.getElem?_cons_succ, List.getElem?_cons_zero]; rfl); (rfl); try simp only [Act.put, List.setIfInBounds_toArray, List.set_cons_zero, List.set_cons_succ]) | (apply lin_pass; (simp only [List.getElem?_toArray, List.getElem?_cons_succ, List.getElem?_cons_zero]; rfl); (rfl); try simp only [Act.put, List.setIfInBounds_toArray, List.set_cons_zero, List.set_cons_succ]) | (apply lin_op; (simp only [List.getElem?_toArray, List.getElem?_cons_succ, List.getElem?_cons_zero]; rfl); (rfl); intro K hK; go_simp; (first | (go_at_call 22; refine (c_bytesS _ _).mono ?_; rintro e w1 ⟨A, c', rfl, hr, hb, hs, hs1⟩) | (go_at_call 31; refine (c_rBytesS _ _).mono ?_; rintro e w1 ⟨A, c', rfl, hr, hb, hs, hs1⟩) | (go_at_call 21; (with_reducible refine (c_of8 _ _ a _ ha (by assumption)).mono ?_); rintro e w' ⟨rfl, rfl⟩) | (go_at_call 32; (with_reducible refine (c_rOf8 _ _ a _ ha (by assumption)).mono ?_); rintro e w' ⟨rfl, rfl⟩) | (go_at_call 21; (with_reducible refine (c_of A0 _ _ xs _ ?_ hm).mono ?_); (refine hR.below ?_ (Nat.le_refl _); (repeat (first | exact Below.refl _ _ | exact ⟨rfl, rfl, rfl, Nat.le_refl _, fun _ _ => rfl⟩ | refine below_alloc ?_ _ | refine below_drewN ?_ _ | refine below_drew ?_ | refine below_two ?_ (by assumption)))); rintro e w' ⟨rfl, rfl⟩) | (go_at_call 32; (with_reducible refine (c_rOf A0 _ _ xs _ ?_ hm).mono ?_); (refine hR.below ?_ (Nat.le_refl _); (repeat (first | exact Below.refl _ _ | exact ⟨rfl, rfl, rfl, Nat.le_refl _, fun _ _ => rfl⟩ | refine below_alloc ?_ _ | refine below_drewN ?_ _ | refine below_drew ?_ | refine below_two ?_ (by assumption)))); rintro e w' ⟨rfl, rfl⟩) | (go_at_call 29; refine (c_rPut8 _ _).mono ?_; rintro e w1 ⟨A, c, rfl, hr, hb⟩) | (go_at_call 18; refine (c_alike _ _ _).mono ?_; rintro e w' ⟨rfl, rfl⟩) | (go_at_call 19; refine (c_add _ _ _).mono ?_; rintro e w' ⟨rfl, k, rfl⟩) | (go_at_call 33; refine (c_rAdd _ _ _).mono ?_; rintro e w' ⟨rfl, k, rfl⟩) | (go_at_call 24; refine (c_less _ _ _ (by assumption) (by assumption)).mono ?_; rintro e w' ⟨rfl, rfl⟩) | (go_at_call 34; refine (c_rLess _ _ _ (by assumption) (by assumption)).mono ?_; rintro e w' ⟨rfl, rfl⟩) | (go_at_call 23; refine (c_awake5 _).mono ?_; rintro e w1 ⟨rfl, hb⟩) | skip); refine hK _ _ ?_ ?_; (first | exact ⟨rfl, rfl, rfl, Nat.le_refl _, fun _ _ => rfl⟩ | assumption | exact below_alloc (Below.refl _ _) _ | exact below_drewN (by assumption) _); clear hK; try simp only [Act.put, List.setIfInBounds_toArray, List.set_cons_zero, List.set_cons_succ]))); refine lin_end ?_)
    go_wp2
    go_ret
    refine ⟨rfl, ?_⟩
    (repeat (first | exact Below.refl _ _ | exact ⟨rfl, rfl, rfl, Nat.le_refl _, fun _ _ => rfl⟩ | refine below_alloc ?_ _ | refine below_drewN ?_ _ | refine below_drew ?_ | refine below_two ?_ (by assumption)))
theorem w_FlotTells (a0 : Int) (a1 : Int) (a2 : Option Addr) (len2 cap2 : Nat) (z2 : List Int) (w : World) (w0 : (Lit.int .u64 a0).wf = true) (w1 : (Lit.int .u64 a1).wf = true) (w2 : IsRow .u8 w a2 len2 cap2 z2) :
    Calls Try.prog 7 #[.int .u64 a0, .int .u64 a1, .slice a2 len2 cap2] w fun e w' => e = .returned (.bool true) ∧ Below w.heap.size w w' := by
  obtain ⟨a, rfl, ha⟩ := of_wf_u64 w0
  obtain ⟨b, rfl, hb⟩ := of_wf_u64 w1
  obtain ⟨xs, hR, hm⟩ := row_bytes w2
  exact w_tells0 a b a2 len2 cap2 xs w ha hb hR hm
end Go.Proofs.Ytldeohbfhigagaa
