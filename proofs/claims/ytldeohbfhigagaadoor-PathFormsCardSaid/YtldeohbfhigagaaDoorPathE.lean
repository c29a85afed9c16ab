/- Contracts of the reference's On and Meet, of SameInts. -/
import Derived.Test.YtldeohbfhigagaaDoorPathD
set_option linter.unusedVariables false
set_option linter.unusedSimpArgs false
namespace Go.Proofs.YtldeohbfhigagaaDoor
open Go.RowKit

theorem dpF_nat (n : Int) : ∃ d : Nat, dpF n = (d : Int) ∧ d ≤ 16 ∧ ∀ leaf, (onF n leaf).length ≤ d + 1 := by
  unfold dpF onF
  cases hd : dpN n with
  | none => exact ⟨0, rfl, by omega, fun _ => by simp⟩
  | some k =>
    obtain ⟨hk, _⟩ := dpN_some hd
    refine ⟨k, rfl, by omega, fun leaf => ?_⟩
    simp only
    split
    · rw [onL_length]; omega
    · simp
set_option maxHeartbeats 1000000 in
theorem c_rOn (n leaf : Int) (w : World) (h : I64 n) :
    Calls Tryd.prog 18 #[.int .i64 n, .int .i64 leaf] w fun e w' => ∃ v, e = .returned v ∧ OwnI w' w.heap.size v (onF n leaf) ∧ Below w.heap.size w w' := by
  obtain ⟨d, hd, hd16, hdl⟩ := dpF_nat n
  have hdl := hdl leaf
  have hat := fun (W : World) (j : Nat) (hj : j ≤ 17) => c_rAt n leaf (j : Int) W h ⟨by omega, by omega⟩
  have hdep := fun (W : World) => c_rDep n W h
  have hon := on_at n leaf
  rw [hd] at hdep
  generalize onF n leaf = L at *
  generalize (atF n leaf) = f at *
  clear h hd
  have HAT := Lib.hid hat
  have HON := Lib.hid hon
  have HDEP := Lib.hid hdep
  clear hat hon hdep
  go_enter Tryd.func18, Tryd.ntmps18
  go_wp2
  go_loopw [5, 6] (fun v lv wr => ∃ j : Nat, j ≤ d + 1 ∧ lv = .int .i64 (j : Int) ∧ OwnI wr w.heap.size v (L.take j) ∧ Below w.heap.size w wr) (fun _ lv _ => 20 - (intOf lv).toNat)
  case atStart => exact ⟨0, Nat.zero_le _, rfl, by simpa using OwnI.nil_ w w.heap.size, Below.refl _ _⟩
  case round =>
    obtain ⟨j, hj, rfl, ho, hb⟩ := hrel
    have hDD := HDEP.out wr
    have hA := HAT.out wr j (by omega)
    have hs := hb.size
    have hl0 : (L.take j).length + 1 ≤ 1000000 := by rw [List.length_take]; omega
    by_cases hjd : j ≤ d
    · rcases HON.out j with ⟨hlt, ht, htk⟩ | ⟨hge, hno⟩
      · rw [ht] at hA
        generalize (f j).1 = y at *
        have HTK := Lib.hid htk
        clear ht htk
        go_wp2_with (first | (go_at_call 14; refine hDD.mono ?_; rintro e w' ⟨rfl, rfl⟩) | (go_at_call 13; refine hA.mono ?_; rintro e w' ⟨rfl, rfl⟩) | (at_builtin; refine wpl_pushI rfl _ _ rfl w.heap.size ho rfl rfl hb hs hl0 ?_; intro v1 w1 ho1 hb1 hg1))
        exact ⟨⟨j + 1, by omega, by go_num, by rw [HTK.out]; exact ho1, hb1⟩, by simp [intOf]; omega⟩
      · rw [hno] at hA
        have HTK := Lib.hid (show L.take (j + 1) = L.take j by rw [List.take_of_length_le (by omega), List.take_of_length_le (by omega)])
        clear hno
        go_wp2_with (first | (go_at_call 14; refine hDD.mono ?_; rintro e w' ⟨rfl, rfl⟩) | (go_at_call 13; refine hA.mono ?_; rintro e w' ⟨rfl, rfl⟩))
        exact ⟨⟨j + 1, by omega, by go_num, by rw [HTK.out]; exact ho, hb⟩, by simp [intOf]; omega⟩
    · obtain rfl : j = d + 1 := by omega
      rw [List.take_of_length_le hdl] at ho
      clear hA
      go_wp2_with (go_at_call 14; refine hDD.mono ?_; rintro e w' ⟨rfl, rfl⟩)
      go_ret
      exact ⟨_, rfl, ho, hb⟩
/-- the last place ahead of j at which two rows have the same -/
def lastEq (xs ys : List Int) : Nat → Int
  | 0 => -1
  | j + 1 => if xs[j]?.getD 0 = ys[j]?.getD 0 then (j : Int) else lastEq xs ys j
theorem Rd.int_at {w : World} {A : Option Addr} {n : Nat} {xs : List Int} (h : Rd w A n (iv xs)) {j : Nat} (hj : j < n) :
    ∃ ad, A = some ad ∧ w.cell? (ad.add j) = some (.int .i64 (xs[j]?.getD 0)) := by
  obtain ⟨ad, v, e, hv, hc⟩ := Rd.at_ h hj
  refine ⟨ad, e, ?_⟩
  rw [iv_get] at hv
  cases hx : xs[j]? with
  | none => rw [hx] at hv; cases hv
  | some b => rw [hx] at hv; cases hv; exact hc
set_option maxHeartbeats 1000000 in
theorem c_sameInts (A B : Option Addr) (n m c d : Nat) (xs ys : List Int) (w : World) (h1 : Rd w A n (iv xs)) (h2 : Rd w B m (iv ys)) (hn : n ≤ 1000000) (hm : m ≤ 1000000) :
    Calls Tryd.prog 17 #[.slice A n c, .slice B m d] w fun e w' => e = .returned (.bool (decide (xs = ys))) ∧ ∃ q, w.drewN q = w' := by
  have l1 : xs.length = n := by have := h1.1; rwa [iv_length] at this
  have l2 : ys.length = m := by have := h2.1; rwa [iv_length] at this
  by_cases hnm : n = m
  · subst hnm
    go_enter Tryd.func17, Tryd.ntmps17
    go_wp2
    go_loopw [5] (fun i wr => ∃ (j q : Nat), j ≤ n ∧ i = .int .i64 (j : Int) ∧ wr = w.drewN q ∧ ∀ k, k < j → xs[k]?.getD 0 = ys[k]?.getD 0) (fun i _ => n - (intOf i).toNat)
    case atStart => exact ⟨0, 0, Nat.zero_le _, rfl, rfl, fun _ h => absurd h (by omega)⟩
    case round =>
      obtain ⟨j, q, hj, rfl, rfl, hall⟩ := hrel
      have HALL := Lib.hid hall
      clear hall
      by_cases hlt : j < n
      · obtain ⟨ad, rfl, hc1⟩ := h1.int_at hlt
        obtain ⟨bd, rfl, hc2⟩ := h2.int_at hlt
        obtain ⟨x, hx⟩ : ∃ x, xs[j]?.getD 0 = x := ⟨_, rfl⟩
        obtain ⟨y, hy⟩ : ∃ y, ys[j]?.getD 0 = y := ⟨_, rfl⟩
        rw [hx] at hc1
        rw [hy] at hc2
        have HXY := Lib.hid (And.intro hx hy)
        clear hx hy
        have c1 : (w.drewN q).cell? (ad.add j) = some (.int .i64 x) := hc1
        have c2 : (w.drewN q).cell? (bd.add j) = some (.int .i64 y) := hc2
        by_cases hxy : x = y
        · subst hxy
          have L1 := Lib.hid l1
          have L2 := Lib.hid l2
          clear l1 l2
          go_wp2
          go_quiet (fail)
          go_wp2
          refine ⟨⟨j + 1, q + nq, by omega, by go_num, rfl, fun k hk => ?_⟩, by simp [intOf]; omega⟩
          rcases Nat.lt_or_eq_of_le (Nat.le_of_lt_succ hk) with hk | rfl
          · exact HALL.out k hk
          · rw [HXY.out.1, HXY.out.2]
        · have hd : xs ≠ ys := by
            rintro rfl
            exact hxy (HXY.out.1.symm.trans HXY.out.2)
          have HD := Lib.hid hd
          clear hd l1 l2
          go_wp2
          go_quiet (fail)
          go_wp2
          go_ret
          exact ⟨by rw [decide_eq_false HD.out]; rfl, q + nq, by first | rfl | exact (World.drewN_drewN _ _ _).symm | simp [World.drewN, Nat.add_assoc]⟩
      · obtain rfl : j = n := by omega
        have hd : xs = ys := by
          apply List.ext_getElem (by omega)
          intro i h1 h2
          have := HALL.out i (by omega)
          rw [List.getElem?_eq_getElem h1, List.getElem?_eq_getElem h2] at this
          exact this
        have HD := Lib.hid hd
        clear hd l1 l2 h1 h2
        go_wp2
        go_ret
        exact ⟨by rw [decide_eq_true HD.out]; rfl, q, rfl⟩
  · have hd : xs ≠ ys := by
      rintro rfl
      omega
    rw [decide_eq_false hd]
    clear hd l1 l2 h1 h2
    have hb : ((n : Int) != (m : Int)) = true := by rw [bne_iff_ne]; omega
    go_enter Tryd.func17, Tryd.ntmps17
    go_wp2
    go_ret
    exact ⟨rfl, 0, rfl⟩
/-- where two ways meet, by their buckets -/
theorem lastEq_spec (xs ys : List Int) (n : Nat) (m : Int) (h1 : ∀ j : Nat, j < n → (xs[j]?.getD 0 = ys[j]?.getD 0 ↔ (j : Int) ≤ m)) (h2 : -1 ≤ m) (h3 : m < n) : lastEq xs ys n = m := by
  induction n with
  | zero => unfold lastEq; omega
  | succ j ih =>
    unfold lastEq
    by_cases h : xs[j]?.getD 0 = ys[j]?.getD 0
    · rw [if_pos h]
      have := (h1 j (by omega)).1 h
      omega
    · rw [if_neg h]
      have : ¬ (j : Int) ≤ m := fun q => h ((h1 j (by omega)).2 q)
      exact ih (fun i hi => h1 i (by omega)) (by omega)
theorem bitLenAux_le_iff : ∀ (f x j : Nat), x < 2 ^ f → (Lib.bitLenAux f x ≤ j ↔ x < 2 ^ j)
  | 0, x, j, h => by
    have hx : x = 0 := by simp at h; exact h
    subst hx
    simp [Lib.bitLenAux, Nat.two_pow_pos]
  | f + 1, x, j, h => by
    unfold Lib.bitLenAux
    by_cases hx : x = 0
    · subst hx; simp [Nat.two_pow_pos]
    · rw [if_neg hx]
      cases j with
      | zero => simp; omega
      | succ j =>
        have := bitLenAux_le_iff f (x / 2) j (by rw [Nat.pow_succ] at h; omega)
        rw [Nat.pow_succ]
        omega
theorem bitLen_iff (x j : Nat) (h : x < 65536) : Lib.bitLen x ≤ j ↔ x < 2 ^ j := bitLenAux_le_iff 64 x j (Nat.lt_of_lt_of_le h (by decide))
theorem xor_div (x y j : Nat) : x / 2 ^ j = y / 2 ^ j ↔ x ^^^ y < 2 ^ j := by
  have e : (x ^^^ y) / 2 ^ j = x / 2 ^ j ^^^ y / 2 ^ j := by
    rw [← Nat.shiftRight_eq_div_pow, ← Nat.shiftRight_eq_div_pow, ← Nat.shiftRight_eq_div_pow, Nat.shiftRight_xor_distrib]
  constructor
  · intro h
    rw [h, Nat.xor_self] at e
    have := Nat.two_pow_pos j
    rcases Nat.div_eq_zero_iff.1 e with h | h
    · omega
    · exact h
  · intro h
    rw [Nat.div_eq_of_lt h] at e
    have e0 := e.symm
    have := congrArg (fun t => t ^^^ y / 2 ^ j) e0
    simpa [Nat.xor_assoc] using this
theorem buk_eq (k x y j : Nat) (hj : j ≤ k) : buk k x j = buk k y j ↔ x ^^^ y < 2 ^ (k - j) := by
  unfold buk
  rw [← xor_div]
  omega
theorem meet_is (n a b : Int) : lastEq (onF n a) (onF n b) (min (onF n a).length (onF n b).length) = meF n a b := by
  cases ha : hasB n a with
  | false => rw [(onF_no ha).1, meF_no (.inl ha)]; simp [lastEq]
  | true =>
    cases hb : hasB n b with
    | false => rw [(onF_no hb).1, meF_no (.inr hb)]; simp [lastEq]
    | true =>
      obtain ⟨k, x, hk, e1, hn, rfl, hx, ex, _⟩ := onF_yes ha
      obtain ⟨k', y, hk', e2, hn', rfl, hy, ey, _⟩ := onF_yes hb
      rw [e1] at e2
      cases e2
      rw [ex, ey, onL_length, onL_length, Nat.min_self]
      have e3 : meF n (x : Int) (y : Int) = (k : Int) - (Lib.bitLen (x ^^^ y) : Nat) := by
        unfold meF
        rw [e1]
        simp only
        rw [if_pos (by omega)]
        simp
      rw [e3]
      have hp := pow17 hk
      have hxy := (xor_i64 x y (by omega) (by omega)).2
      have hlk : Lib.bitLen (x ^^^ y) ≤ k := (bitLen_iff _ _ hxy).2 (Nat.xor_lt_two_pow hx hy)
      refine lastEq_spec _ _ _ _ (fun j hj => ?_) (by omega) (by omega)
      rw [onL_get k x j (by omega), onL_get k y j (by omega)]
      simp only [Option.getD_some]
      rw [buk_eq k x y j (by omega), ← bitLen_iff _ _ hxy]
      omega
end Go.Proofs.YtldeohbfhigagaaDoor
