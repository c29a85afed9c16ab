/- Contracts of the reference's Meet, of what law 13 fixes. -/
import Derived.Test.YtldeohbfhigagaaDoorPathE
set_option linter.unusedVariables false
set_option linter.unusedSimpArgs false
namespace Go.Proofs.YtldeohbfhigagaaDoor
open Go.RowKit

theorem Rd.drew {w : World} {A : Option Addr} {n q : Nat} {vs : List Value} (h : Rd w A n vs) : Rd (w.drewN q) A n vs := h.keep fun _ _ _ _ => rfl
set_option maxHeartbeats 1000000 in
theorem c_rMeet (n a b : Int) (w : World) (h : I64 n) :
    Calls Tryd.prog 19 #[.int .i64 n, .int .i64 a, .int .i64 b] w fun e w' => e = .returned (.int .i64 (meF n a b)) ∧ Below w.heap.size w w' := by
  have hx := fun (W : World) => c_rOn n a W h
  have hy := fun (W : World) => c_rOn n b W h
  have hlx := onF_len n a
  have hly := onF_len n b
  have hm := meet_is n a b
  generalize onF n a = X at *
  generalize onF n b = Y at *
  generalize meF n a b = M at *
  obtain ⟨lx, hlx'⟩ : ∃ lx, X.length = lx := ⟨_, rfl⟩
  obtain ⟨ly, hly'⟩ : ∃ ly, Y.length = ly := ⟨_, rfl⟩
  rw [hlx'] at hlx hm
  rw [hly'] at hly hm
  have HLX := Lib.hid hlx'
  have HLY := Lib.hid hly'
  clear hlx' hly'
  have HM := Lib.hid hm
  have HX := Lib.hid hx
  have HY := Lib.hid hy
  clear hx hy hm h
  go_enter Tryd.func19, Tryd.ntmps19
  go_wp2_with fail
  refine (HX.out _).mono ?_
  rintro e w1 ⟨v1, rfl, ho1, hb1⟩
  go_wp2_with fail
  refine (HY.out _).mono ?_
  rintro e w2 ⟨v2, rfl, ho2, hb2⟩
  have hf1 := (ho1.below hb2).form
  have hf2 := ho2.form
  rw [HLX.out] at hf1
  rw [HLY.out] at hf2
  obtain ⟨A, ca, rfl, -, -, hr1⟩ := hf1
  obtain ⟨B, cb, rfl, -, -, hr2⟩ := hf2
  have hB := below_two hb1 hb2
  clear ho1 ho2 hb1 hb2 HX HY HLX HLY
  go_wp2
  go_loopw [9, 10] (fun s i wr => ∃ (j q : Nat), j ≤ min lx ly ∧ i = .int .i64 (j : Int) ∧ s = .int .i64 (lastEq X Y j) ∧ wr = w2.drewN q) (fun _ i _ => 20 - (intOf i).toNat)
  case atStart => exact ⟨0, 0, Nat.zero_le _, rfl, rfl, rfl⟩
  case round =>
    obtain ⟨j, q, hj, rfl, rfl, rfl⟩ := hrel
    by_cases hlt : j < min lx ly
    · have hlx1 : j < lx := by omega
      have hly1 : j < ly := by omega
      obtain ⟨ad, rfl, hc1⟩ := hr1.int_at hlx1
      obtain ⟨bd, rfl, hc2⟩ := hr2.int_at hly1
      have hL : lastEq X Y (j + 1) = if X[j]?.getD 0 = Y[j]?.getD 0 then (j : Int) else lastEq X Y j := rfl
      generalize X[j]?.getD 0 = x at *
      generalize Y[j]?.getD 0 = y at *
      have c1 : (w2.drewN q).cell? (ad.add j) = some (.int .i64 x) := hc1
      have c2 : (w2.drewN q).cell? (bd.add j) = some (.int .i64 y) := hc2
      by_cases hxy : x = y
      · subst hxy
        rw [if_pos rfl] at hL
        have HL := Lib.hid hL
        clear hL
        go_wp2
        go_quiet (fail)
        go_wp2
        exact ⟨⟨j + 1, q + nq, by omega, by go_num, by rw [HL.out], by first | rfl | exact (World.drewN_drewN _ _ _).symm⟩, by simp [intOf]; omega⟩
      · rw [if_neg hxy] at hL
        have HL := Lib.hid hL
        clear hL
        go_wp2
        go_quiet (fail)
        go_wp2
        exact ⟨⟨j + 1, q + nq, by omega, by go_num, by rw [HL.out], by first | rfl | exact (World.drewN_drewN _ _ _).symm⟩, by simp [intOf]; omega⟩
    · obtain rfl : j = min lx ly := by omega
      have HR := HM.out
      generalize lastEq X Y (min lx ly) = r at *
      subst HR
      clear HM
      by_cases hq : lx ≤ ly
      · rw [Nat.min_eq_left hq]
        have h1 : ¬ lx < lx := by omega
        go_wp2
        go_ret
        exact ⟨rfl, below_drewN hB q⟩
      · rw [Nat.min_eq_right (by omega)]
        have h1 : ¬ ly < ly := by omega
        have h2 : ly < lx := by omega
        go_wp2
        go_ret
        exact ⟨rfl, below_drewN hB q⟩
theorem vals13 : atF 4 3 2 = (6, true) ∧ atF 4 4 0 = (0, false) ∧ dpF 8 = 3 ∧ dpF 6 = 0 ∧ buF 4 = 7 ∧ buF 0 = 0 ∧ onF 4 2 = [0, 2, 5] ∧ meF 4 2 3 = 1 ∧ meF 4 0 4 = -1 := by decide +kernel
set_option maxHeartbeats 1000000 in
theorem c_awake13 (w : World) (hT : TabW w) : Calls Tryd.prog 11 #[] w fun e w' => e = .returned (.bool true) ∧ Below w.heap.size w w' := by
  obtain ⟨v1, v2, v3, v4, v5, v6, v7, v8, v9⟩ := vals13
  have i4 : I64 4 := ⟨by decide, by decide⟩
  have k1 := fun W hW => c_at 4 3 2 W i4 hW
  have k2 := fun W hW => c_at 4 4 0 W i4 hW
  have k3 := fun W hW => c_dep 8 W ⟨by decide, by decide⟩ hW
  have k4 := fun W hW => c_dep 6 W ⟨by decide, by decide⟩ hW
  have k5 := fun W => c_buc 4 W i4
  have k6 := fun W => c_buc 0 W ⟨by decide, by decide⟩
  have k7 := fun W hW => c_on 4 2 W i4 hW
  have k8 := fun W hW => c_meet 4 2 3 W i4 hW
  have k9 := fun W hW => c_meet 4 0 4 W i4 hW
  rw [v1] at k1
  rw [v2] at k2
  rw [v3] at k3
  rw [v4] at k4
  rw [v5] at k5
  rw [v6] at k6
  rw [v7] at k7
  rw [v8] at k8
  rw [v9] at k9
  have hB0 := Below.refl w.heap.size w
  clear v1 v2 v3 v4 v5 v6 v7 v8 v9
  have HK := Lib.hid (And.intro k1 (And.intro k2 (And.intro k3 (And.intro k4 (And.intro k5 (And.intro k6 (And.intro k7 (And.intro k8 k9))))))))
  clear k1 k2 k3 k4 k5 k6 k7 k8 k9
  go_enter Tryd.func11, Tryd.ntmps11
  go_wp2_with fail
  refine (HK.out.1 _ hT).mono ?_
  rintro e w' ⟨rfl, q1, rfl⟩
  go_wp2_with fail
  refine (HK.out.2.1 _ (hT.below (below_drewN (Below.refl _ _) _) (Nat.le_refl _))).mono ?_
  rintro e w' ⟨rfl, q2, rfl⟩
  go_wp2_with fail
  have hT2 : TabW (w.drewN (q1 + q2)) := hT.below (below_drewN (Below.refl _ _) _) (Nat.le_refl _)
  have hB2 : Below w.heap.size w (w.drewN (q1 + q2)) := below_drewN (Below.refl _ _) _
  generalize w.drewN (q1 + q2) = w2 at *
  have hs2 := hB2.size
  refine (HK.out.2.2.1 _ hT2).mono ?_
  rintro e w' ⟨rfl, rfl⟩
  go_wp2_with fail
  refine (HK.out.2.2.2.1 _ hT2).mono ?_
  rintro e w' ⟨rfl, rfl⟩
  go_wp2_with fail
  refine (HK.out.2.2.2.2.1 _).mono ?_
  rintro e w' ⟨rfl, rfl⟩
  go_wp2_with fail
  refine (HK.out.2.2.2.2.2.1 _).mono ?_
  rintro e w' ⟨rfl, rfl⟩
  go_wp2_with fail
  refine (HK.out.2.2.2.2.2.2.1 _ hT2).mono ?_
  rintro e w3 ⟨v, rfl, ho, hb3⟩
  have hB3 := hB2.trans (hb3.mono hs2)
  have hT3 := hT2.below hb3 (Nat.le_refl _)
  go_wp2_with fail
  obtain ⟨A, ca, rfl, -, -, hr1⟩ := (ho.below (below_alloc (Below.refl w3.heap.size w3) (.cells #[.int .i64 0, .int .i64 2, .int .i64 5] 3))).form
  have hr2 := rd_lit w3 (iv [0, 2, 5]) 3 (0, 0) 3 rfl
  refine (c_sameInts _ _ _ _ _ _ _ _ _ hr1 hr2 (by decide) (by decide)).mono ?_
  rintro e w4 ⟨rfl, q3, rfl⟩
  have hB4 := below_drewN (below_alloc hB3 (.cells #[.int .i64 0, .int .i64 2, .int .i64 5] 3)) q3
  have hT4 := hT3.below (below_drewN (below_alloc (Below.refl _ _) (.cells #[.int .i64 0, .int .i64 2, .int .i64 5] 3)) q3) (Nat.le_refl _)
  go_wp2_with fail
  generalize ((w3.alloc (Obj.cells #[Value.int IntKind.i64 0, Value.int IntKind.i64 2, Value.int IntKind.i64 5] 3)).drewN q3) = w5 at *
  refine (HK.out.2.2.2.2.2.2.2.1 _ hT4).mono ?_
  rintro e w' ⟨rfl, rfl⟩
  go_wp2_with fail
  refine (HK.out.2.2.2.2.2.2.2.2 _ hT4).mono ?_
  rintro e w' ⟨rfl, rfl⟩
  go_wp2
  go_ret
  exact ⟨rfl, hB4⟩
end Go.Proofs.YtldeohbfhigagaaDoor
