/- le.Sum of parts; numbers' bytes; appends at a single operation. -/
import Derived.Test.YtmdmhjcdaejlkaaSealA
import Derived.Test.YtmdmhjcdaejlkaaCutS
set_option linter.unusedVariables false
set_option linter.unusedSimpArgs false
namespace Go.Proofs.Ytmdmhjcdaejlkaa
open Go.RowKit

/-- a row of slices of bytes -/
def PartsAt (W : World) (ad : Addr) (xss : List (List UInt8)) : Prop :=
  ∀ i xs, xss[i]? = some xs → ∃ A c, W.cell? (ad.add i) = some (.slice A xs.length c) ∧ RdB W A xs.length xs ∧ xs.length ≤ 1000000
theorem flat_snoc (xss : List (List UInt8)) (k : Nat) (xs : List UInt8) (h : xss[k]? = some xs) : (xss.take (k + 1)).flatten = (xss.take k).flatten ++ xs := by
  obtain ⟨hk, he⟩ := List.getElem?_eq_some_iff.1 h
  rw [List.take_succ_eq_append_getElem hk, List.flatten_append, he]
  simp
theorem sumI_more (pre xs : List UInt8) (k : Nat) (h : k < xs.length) : sumI (pre ++ xs.take (k + 1)) = sumStep (sumI (pre ++ xs.take k)) (xs.getD k 0) := by
  rw [List.take_succ_eq_append_getElem h, ← List.append_assoc, sumI_snoc, List.getD_eq_getElem?_getD, List.getElem?_eq_getElem h]
  rfl
set_option maxHeartbeats 1000000 in
set_option maxRecDepth 100000 in
theorem c_leSum (ad : Addr) (cap : Nat) (xss : List (List UInt8)) (w : World) (hP : PartsAt w ad xss) (hn : xss.length ≤ 1000) :
    Calls Try.prog 86 #[.slice (some ad) xss.length cap] w fun e w' => e = .returned (.int .u64 (sumN xss.flatten : Nat)) ∧ w = w' := by
  generalize hN : xss.length = N at *
  have HN := Lib.hid hN
  clear hN
  go_enter Try.func86, Try.ntmps86
  go_wp2
  go_loop [3, 10] (fun h i => ∃ k : Nat, k ≤ N ∧ i = .int .i64 (k : Int) ∧ h = .int .u64 (sumI (xss.take k).flatten)) (fun _ i => N - (intOf i).toNat)
  case atStart => exact ⟨0, by omega, rfl, rfl⟩
  case round =>
    obtain ⟨k, hk, rfl, rfl⟩ := hrel
    by_cases hlt : k < N
    · have hlt2 : (k : Int) < (N : Int) := by omega
      obtain ⟨xs, hxs⟩ : ∃ xs, xss[k]? = some xs := ⟨_, List.getElem?_eq_getElem (by rw [HN.out]; exact hlt)⟩
      obtain ⟨A, c, hcell, hR, hm⟩ := hP k xs hxs
      have hfl := flat_snoc xss k xs hxs
      have HFL := Lib.hid hfl
      clear hfl hxs
      generalize (xss.take k).flatten = pre at *
      generalize hL : xs.length = L at *
      have HL := Lib.hid hL
      clear hL
      go_wp2_with fail
      go_loop [3, 16] (fun h i => ∃ j : Nat, j ≤ L ∧ i = .int .i64 (j : Int) ∧ h = .int .u64 (sumI (pre ++ xs.take j))) (fun _ i => L - (intOf i).toNat)
      case atStart => exact ⟨0, by omega, rfl, by simp⟩
      case round =>
        obtain ⟨j, hj, rfl, rfl⟩ := hrel
        by_cases hlj : j < L
        · have hlj2 : (j : Int) < (L : Int) := by omega
          obtain ⟨ad2, rfl, hc⟩ := RdB.at_ hR (j := j) hlj
          rw [← List.getD_eq_getElem?_getD] at hc
          have hs := sumI_more pre xs j (by rw [HL.out]; exact hlj)
          have HS := Lib.hid hs
          clear hs
          generalize sumI (pre ++ xs.take j) = h0 at *
          generalize xs.getD j 0 = x at *
          have hx := x.toNat_lt
          have hx2 : (x.toNat : Int) < 256 := by omega
          go_wp2
          go_round
          case rel => exact ⟨j + 1, by omega, by go_num, by rw [HS.out]; rfl⟩
          case measure => simp [intOf]; omega
        · obtain rfl : j = L := by omega
          have hfin : sumI (pre ++ xs.take j) = sumI (xss.take (k + 1)).flatten := by rw [List.take_of_length_le (by rw [HL.out]; exact Nat.le_refl _), HFL.out]
          rw [hfin]
          clear hfin
          go_wp2
          go_round
          case rel => exact ⟨k + 1, by omega, by go_num, rfl⟩
          case measure => simp [intOf]; omega
    · obtain rfl : k = N := by omega
      rw [List.take_of_length_le (by rw [HN.out]; exact Nat.le_refl _), ← sumN_cast]
      go_wp2
      go_ret
      exact ⟨rfl, rfl⟩
/-- bytes appended to bytes of the call's own, at a single operation -/
theorem wp_cat {P : Program} {o : Oper} {a : Act} {K : Act → World → Prop} {Q : Exit → Act → World → Prop} {w0 W : World} (s x : Operand) (t : TypeId)
    (ho : o.op = .call { callee := .builtin .append, args := #[s, x], argTypes := #[t, t] })
    (base : Nat) (e : TypeId) (ht : P.underlying t = some (.slice e))
    (hi : (P.info? e).map (fun i => (i.zero, i.size, i.bytes)) = some (some (.int .u8 0), 1, 1))
    {v : Value} {xs : List UInt8} (HO : OwnB W base e v xs) (hs : a.eval s = v) {A : Option Addr} {m c : Nat} {ys : List UInt8} (hr : RdB W A m ys) (hx : a.eval x = .slice A m c)
    (HB : Below base w0 W) (hbase : base ≤ W.heap.size) (hl : xs.length + m ≤ 140737488355328)
    (h : ∀ v1 w1, OwnB w1 base e v1 (xs ++ ys) → Below base w0 w1 → W.grownBy w1 v.ownBlock → (v1.ownBlock = v.ownBlock ∨ v1.ownBlock = some W.heap.size) → K (a.put o.dst v1) w1) : o.wp P a W K Q := by
  have HO' : W.ownsRow base e 1 v (bv xs).length (bv xs) := by rw [bv_length]; exact HO
  refine wp_app W s x t ho base e (.int .u8 0) 1 ht hi rfl v (bv xs) hs HO' A m c (bv ys) hx hr (bv_cells ys) (by rw [bv_length]; simp only [maxLen]; omega) (by rw [bv_length]; omega) hbase ?_
  intro v1 w1 hown hg hat
  refine h v1 w1 ?_ (HB.grown hg hbase (own_base HO)) hg hat
  unfold OwnB
  rw [bv_append, ← bv_length (xs ++ ys), bv_append]
  exact hown
/-- what copy leaves, as bytes -/
theorem copy_row {xs ys : List UInt8} {off m n : Nat} : ((bv xs).toArray.toList.take off ++ ((bv ys).take (min m n) ++ (bv xs).toArray.toList.drop (off + min m n))).toArray = (bv (xs.take off ++ (ys.take (min m n) ++ xs.drop (off + min m n)))).toArray := by
  rw [List.toList_toArray, ← bv_take, ← bv_take, ← bv_drop, ← bv_append, ← bv_append]
theorem c_lePut4 (n : Nat) (w : World) :
    Calls Try.prog 85 #[.int .u64 (n : Int), .int .i64 4] w fun e w' => ∃ A c, e = .returned (.slice A 4 c) ∧ 4 ≤ c ∧ OwnB w' w.heap.size 5 (.slice A 4 c) (leP n 4) ∧ RdB w' A 4 (leP n 4) ∧ Below w.heap.size w w' := by
  refine (c_lePut n 4 w (by decide)).mono ?_
  rintro e w' ⟨v, rfl, ho, hb⟩
  obtain ⟨A, c, rfl, h1, -, h2⟩ := ho.form
  rw [leP_length] at *
  exact ⟨A, c, rfl, h1, ho, h2, hb⟩
theorem c_lePut8 (n : Nat) (w : World) :
    Calls Try.prog 85 #[.int .u64 (n : Int), .int .i64 8] w fun e w' => ∃ A c, e = .returned (.slice A 8 c) ∧ 8 ≤ c ∧ OwnB w' w.heap.size 5 (.slice A 8 c) (leP n 8) ∧ RdB w' A 8 (leP n 8) ∧ Below w.heap.size w w' := by
  refine (c_lePut n 8 w (by decide)).mono ?_
  rintro e w' ⟨v, rfl, ho, hb⟩
  obtain ⟨A, c, rfl, h1, -, h2⟩ := ho.form
  rw [leP_length] at *
  exact ⟨A, c, rfl, h1, ho, h2, hb⟩
theorem c_rPut4 (n : Nat) (w : World) :
    Calls Try.prog 33 #[.int .u64 (n : Int), .int .i64 4] w fun e w' => ∃ A c, e = .returned (.slice A 4 c) ∧ 4 ≤ c ∧ OwnB w' w.heap.size 5 (.slice A 4 c) (leP n 4) ∧ RdB w' A 4 (leP n 4) ∧ Below w.heap.size w w' := by
  refine (c_rPut n 4 w (by decide)).mono ?_
  rintro e w' ⟨v, rfl, ho, hb⟩
  obtain ⟨A, c, rfl, h1, -, h2⟩ := ho.form
  rw [leP_length] at *
  exact ⟨A, c, rfl, h1, ho, h2, hb⟩
theorem c_rPut8 (n : Nat) (w : World) :
    Calls Try.prog 33 #[.int .u64 (n : Int), .int .i64 8] w fun e w' => ∃ A c, e = .returned (.slice A 8 c) ∧ 8 ≤ c ∧ OwnB w' w.heap.size 5 (.slice A 8 c) (leP n 8) ∧ RdB w' A 8 (leP n 8) ∧ Below w.heap.size w w' := by
  refine (c_rPut n 8 w (by decide)).mono ?_
  rintro e w' ⟨v, rfl, ho, hb⟩
  obtain ⟨A, c, rfl, h1, -, h2⟩ := ho.form
  rw [leP_length] at *
  exact ⟨A, c, rfl, h1, ho, h2, hb⟩
end Go.Proofs.Ytmdmhjcdaejlkaa
