/- le.Sum of parts; the head of a sealed block. -/
import Derived.Test.YtlbpmboknmbcgaaSealC
import Derived.Test.YtlbpmboknmbcgaaDiskE
set_option linter.unusedVariables false
set_option linter.unusedSimpArgs false
namespace Go.Proofs.Ytlbpmboknmbcgaa
open Go.RowKit

/-- a row of slices of bytes -/
def PartsAt (W : World) (ad : Addr) (xss : List (List UInt8)) : Prop :=
  ∀ i xs, xss[i]? = some xs → ∃ A c, W.cell? (ad.add i) = some (.slice A xs.length c) ∧ RdB W A xs.length xs ∧ xs.length ≤ 1000000
theorem flat_snoc (xss : List (List UInt8)) (k : Nat) (xs : List UInt8) (h : xss[k]? = some xs) : (xss.take (k + 1)).flatten = (xss.take k).flatten ++ xs := by
  obtain ⟨hk, he⟩ := List.getElem?_eq_some_iff.1 h
  rw [List.take_succ_eq_append_getElem hk, List.flatten_append, he]
  simp
theorem sumI_more (pre xs : List UInt8) (k : Nat) (h : k < xs.length) : sumI (pre ++ xs.take (k + 1)) = sumStep (sumI (pre ++ xs.take k)) (xs.getD k 0) := by
  rw [List.take_succ_eq_append_getElem h, ← List.append_assoc, sumI_snoc, List.getD_eq_getElem?_getD, List.getElem?_eq_getElem h]
  rfl
set_option maxHeartbeats 1000000 in
set_option maxRecDepth 100000 in
theorem c_leSum (ad : Addr) (cap : Nat) (xss : List (List UInt8)) (w : World) (hP : PartsAt w ad xss) (hn : xss.length ≤ 1000) :
    Calls Try.prog 71 #[.slice (some ad) xss.length cap] w fun e w' => e = .returned (.int .u64 (sumN xss.flatten : Nat)) ∧ w = w' := by
  generalize hN : xss.length = N at *
  have HN := Lib.hid hN
  clear hN
  go_enter Try.func71, Try.ntmps71
  go_wp2
  go_loop [3, 10] (fun h i => ∃ k : Nat, k ≤ N ∧ i = .int .i64 (k : Int) ∧ h = .int .u64 (sumI (xss.take k).flatten)) (fun _ i => N - (intOf i).toNat)
  case atStart => exact ⟨0, by omega, rfl, rfl⟩
  case round =>
    obtain ⟨k, hk, rfl, rfl⟩ := hrel
    by_cases hlt : k < N
    · have hlt2 : (k : Int) < (N : Int) := by omega
      obtain ⟨xs, hxs⟩ : ∃ xs, xss[k]? = some xs := ⟨_, List.getElem?_eq_getElem (by rw [HN.out]; exact hlt)⟩
      obtain ⟨A, c, hcell, hR, hm⟩ := hP k xs hxs
      have hfl := flat_snoc xss k xs hxs
      have HFL := Lib.hid hfl
      clear hfl hxs
      generalize (xss.take k).flatten = pre at *
      generalize hL : xs.length = L at *
      have HL := Lib.hid hL
      clear hL
      go_wp2_with fail
      go_loop [3, 16] (fun h i => ∃ j : Nat, j ≤ L ∧ i = .int .i64 (j : Int) ∧ h = .int .u64 (sumI (pre ++ xs.take j))) (fun _ i => L - (intOf i).toNat)
      case atStart => exact ⟨0, by omega, rfl, by simp⟩
      case round =>
        obtain ⟨j, hj, rfl, rfl⟩ := hrel
        by_cases hlj : j < L
        · have hlj2 : (j : Int) < (L : Int) := by omega
          obtain ⟨ad2, rfl, hc⟩ := RdB.at_ hR (j := j) hlj
          rw [← List.getD_eq_getElem?_getD] at hc
          have hs := sumI_more pre xs j (by rw [HL.out]; exact hlj)
          have HS := Lib.hid hs
          clear hs
          generalize sumI (pre ++ xs.take j) = h0 at *
          generalize xs.getD j 0 = x at *
          have hx := x.toNat_lt
          have hx2 : (x.toNat : Int) < 256 := by omega
          go_wp2
          go_round
          case rel => exact ⟨j + 1, by omega, by go_num, by rw [HS.out]; rfl⟩
          case measure => simp [intOf]; omega
        · obtain rfl : j = L := by omega
          have hfin : sumI (pre ++ xs.take j) = sumI (xss.take (k + 1)).flatten := by rw [List.take_of_length_le (by rw [HL.out]; exact Nat.le_refl _), HFL.out]
          rw [hfin]
          clear hfin
          go_wp2
          go_round
          case rel => exact ⟨k + 1, by omega, by go_num, rfl⟩
          case measure => simp [intOf]; omega
    · obtain rfl : k = N := by omega
      rw [List.take_of_length_le (by rw [HN.out]; exact Nat.le_refl _), ← sumN_cast]
      go_wp2
      go_ret
      exact ⟨rfl, rfl⟩
/-- bytes appended to bytes of the call's own, at a single operation -/
theorem wp_cat {P : Program} {o : Oper} {a : Act} {K : Act → World → Prop} {Q : Exit → Act → World → Prop} {w0 W : World} (s x : Operand) (t : TypeId)
    (ho : o.op = .call { callee := .builtin .append, args := #[s, x], argTypes := #[t, t] })
    (base : Nat) (e : TypeId) (ht : P.underlying t = some (.slice e))
    (hi : (P.info? e).map (fun i => (i.zero, i.size, i.bytes)) = some (some (.int .u8 0), 1, 1))
    {v : Value} {xs : List UInt8} (HO : OwnB W base e v xs) (hs : a.eval s = v) {A : Option Addr} {m c : Nat} {ys : List UInt8} (hr : RdB W A m ys) (hx : a.eval x = .slice A m c)
    (HB : Below base w0 W) (hbase : base ≤ W.heap.size) (hl : xs.length + m ≤ 140737488355328)
    (h : ∀ v1 w1, OwnB w1 base e v1 (xs ++ ys) → Below base w0 w1 → W.grownBy w1 v.ownBlock → (v1.ownBlock = v.ownBlock ∨ v1.ownBlock = some W.heap.size) → K (a.put o.dst v1) w1) : o.wp P a W K Q := by
  have HO' : W.ownsRow base e 1 v (bv xs).length (bv xs) := by rw [bv_length]; exact HO
  refine wp_app W s x t ho base e (.int .u8 0) 1 ht hi rfl v (bv xs) hs HO' A m c (bv ys) hx hr (bv_cells ys) (by rw [bv_length]; simp only [maxLen]; omega) (by rw [bv_length]; omega) hbase ?_
  intro v1 w1 hown hg hat
  refine h v1 w1 ?_ (HB.grown hg hbase (own_base HO)) hg hat
  unfold OwnB
  rw [bv_append, ← bv_length (xs ++ ys), bv_append]
  exact hown
/-- what copy leaves, as bytes -/
theorem copy_row {xs ys : List UInt8} {off m n : Nat} : ((bv xs).toArray.toList.take off ++ ((bv ys).take (min m n) ++ (bv xs).toArray.toList.drop (off + min m n))).toArray = (bv (xs.take off ++ (ys.take (min m n) ++ xs.drop (off + min m n)))).toArray := by
  rw [List.toList_toArray, ← bv_take, ← bv_take, ← bv_drop, ← bv_append, ← bv_append]
theorem c_lePut4 (n : Nat) (w : World) :
    Calls Try.prog 70 #[.int .u64 (n : Int), .int .i64 4] w fun e w' => ∃ A c, e = .returned (.slice A 4 c) ∧ 4 ≤ c ∧ OwnB w' w.heap.size 5 (.slice A 4 c) (leP n 4) ∧ RdB w' A 4 (leP n 4) ∧ Below w.heap.size w w' := by
  refine (c_lePut n 4 w (by decide)).mono ?_
  rintro e w' ⟨v, rfl, ho, hb⟩
  obtain ⟨A, c, rfl, h1, -, h2⟩ := ho.form
  rw [leP_length] at *
  exact ⟨A, c, rfl, h1, ho, h2, hb⟩
theorem c_lePut8 (n : Nat) (w : World) :
    Calls Try.prog 70 #[.int .u64 (n : Int), .int .i64 8] w fun e w' => ∃ A c, e = .returned (.slice A 8 c) ∧ 8 ≤ c ∧ OwnB w' w.heap.size 5 (.slice A 8 c) (leP n 8) ∧ RdB w' A 8 (leP n 8) ∧ Below w.heap.size w w' := by
  refine (c_lePut n 8 w (by decide)).mono ?_
  rintro e w' ⟨v, rfl, ho, hb⟩
  obtain ⟨A, c, rfl, h1, -, h2⟩ := ho.form
  rw [leP_length] at *
  exact ⟨A, c, rfl, h1, ho, h2, hb⟩
theorem c_rPut4 (n : Nat) (w : World) :
    Calls Try.prog 77 #[.int .u64 (n : Int), .int .i64 4] w fun e w' => ∃ A c, e = .returned (.slice A 4 c) ∧ 4 ≤ c ∧ OwnB w' w.heap.size 5 (.slice A 4 c) (leP n 4) ∧ RdB w' A 4 (leP n 4) ∧ Below w.heap.size w w' := by
  refine (c_rPut n 4 w (by decide)).mono ?_
  rintro e w' ⟨v, rfl, ho, hb⟩
  obtain ⟨A, c, rfl, h1, -, h2⟩ := ho.form
  rw [leP_length] at *
  exact ⟨A, c, rfl, h1, ho, h2, hb⟩
theorem c_rPut8 (n : Nat) (w : World) :
    Calls Try.prog 77 #[.int .u64 (n : Int), .int .i64 8] w fun e w' => ∃ A c, e = .returned (.slice A 8 c) ∧ 8 ≤ c ∧ OwnB w' w.heap.size 5 (.slice A 8 c) (leP n 8) ∧ RdB w' A 8 (leP n 8) ∧ Below w.heap.size w w' := by
  refine (c_rPut n 8 w (by decide)).mono ?_
  rintro e w' ⟨v, rfl, ho, hb⟩
  obtain ⟨A, c, rfl, h1, -, h2⟩ := ho.form
  rw [leP_length] at *
  exact ⟨A, c, rfl, h1, ho, h2, hb⟩
structure IsHd (boot seq : Nat) (H : List UInt8) : Prop where
  out : headL12 boot seq = H
set_option maxHeartbeats 1000000 in
set_option maxRecDepth 100000 in
theorem c_head (boot seq : Nat) (hb : boot < 4294967296) (w : World) :
    Calls Try.prog 44 #[.int .u32 (boot : Int), .int .u64 (seq : Int)] w fun e w' => e = .returned (.agg (bv (headL12 boot seq)).toArray) ∧ Below w.heap.size w w' := by
  obtain ⟨h4, h5, hz, hB⟩ := alloc2 w #[.int .u8 0, .int .u8 0, .int .u8 0, .int .u8 0, .int .u8 0, .int .u8 0, .int .u8 0, .int .u8 0, .int .u8 0, .int .u8 0, .int .u8 0, .int .u8 0] 30 #[.int .u8 0, .int .u8 0, .int .u8 0, .int .u8 0, .int .u8 0, .int .u8 0, .int .u8 0, .int .u8 0, .int .u8 0, .int .u8 0, .int .u8 0, .int .u8 0] 30
  have hw6 : IntKind.u64.wrap (boot : Int) = (boot : Int) := IntWalk.u64_in _ ⟨by omega, by omega⟩
  have hb1 : (boot : Int) < 4294967296 := by omega
  go_enter Try.func44, Try.ntmps44
  go_upto_region 2 with fail
  generalize (w.alloc (.cells #[.int .u8 0, .int .u8 0, .int .u8 0, .int .u8 0, .int .u8 0, .int .u8 0, .int .u8 0, .int .u8 0, .int .u8 0, .int .u8 0, .int .u8 0, .int .u8 0] 30)).alloc (.cells #[.int .u8 0, .int .u8 0, .int .u8 0, .int .u8 0, .int .u8 0, .int .u8 0, .int .u8 0, .int .u8 0, .int .u8 0, .int .u8 0, .int .u8 0, .int .u8 0] 30) = W1 at *
  have k4 : Row W1 w.heap.size (bv (List.replicate 12 0)).toArray 30 := h4
  have k5 : Row W1 (w.heap.size + 1) (bv (List.replicate 12 0)).toArray 30 := h5
  have hz1 : w.heap.size + 1 < W1.heap.size := by omega
  generalize hgO : w.heap.size + 1 = gO at *
  clear h4 h5 hz
  (refine wp_region_linN (Below W1.heap.size) (Below W1.heap.size) (wayB _) (wayB _) (fun _ _ h => h) (.free 0 (.free 1 (.hot 2 (.op 3 [(2, 3)] [] [] (.op 4 [] [] [] .nil))))) rfl (by kernel_rfl) (by kernel_rfl) (fun _ _ _ _ _ h => h) ?_; (first | (apply linN_free; (simp only [List.getElem?_toArray, List.getElem?_cons_succ, List.getElem?_cons_zero]; rfl); (rfl); (intro w'; (first | (go_simp; done) | (go_simp; with_reducible rfl) | (go_simp; go_bits; with_reducible rfl) | (go_simp; go_bits; done))); try simp only [Act.put, List.setIfInBounds_toArray, List.set_cons_zero, List.set_cons_succ]) | (apply linN_freeSkip; (simp only [List.getElem?_toArray, List.getElem?_cons_succ, List.getElem?_cons_zero]; rfl); (rfl); try simp only [Act.put, List.setIfInBounds_toArray, List.set_cons_zero, List.set_cons_succ])); (first | (apply linN_free; (simp only [List.getElem?_toArray, List.getElem?_cons_succ, List.getElem?_cons_zero]; rfl); (rfl); (intro w'; (first | (go_simp; done) | (go_simp; with_reducible rfl) | (go_simp; go_bits; with_reducible rfl) | (go_simp; go_bits; done))); try simp only [Act.put, List.setIfInBounds_toArray, List.set_cons_zero, List.set_cons_succ]) | (apply linN_freeSkip; (simp only [List.getElem?_toArray, List.getElem?_cons_succ, List.getElem?_cons_zero]; rfl); (rfl); try simp only [Act.put, List.setIfInBounds_toArray, List.set_cons_zero, List.set_cons_succ])); (first | (apply linN_hot; (simp only [List.getElem?_toArray, List.getElem?_cons_succ, List.getElem?_cons_zero]; rfl); (rfl); (intro w' hb'; (first | (go_simp; done) | (go_simp; with_reducible rfl) | (go_simp; go_bits; with_reducible rfl) | (go_simp; go_bits; done))); try simp only [Act.put, List.setIfInBounds_toArray, List.set_cons_zero, List.set_cons_succ]) | (apply linN_hotSkip; (simp only [List.getElem?_toArray, List.getElem?_cons_succ, List.getElem?_cons_zero]; rfl); (rfl); try simp only [Act.put, List.setIfInBounds_toArray, List.set_cons_zero, List.set_cons_succ])); (first | (apply linN_pass (wayB _) (wayB _); (simp only [List.getElem?_toArray, List.getElem?_cons_succ, List.getElem?_cons_zero]; rfl); (rfl); try simp only [Act.put, List.setIfInBounds_toArray, List.set_cons_zero, List.set_cons_succ]) | (apply linN_op; (simp only [List.getElem?_toArray, List.getElem?_cons_succ, List.getElem?_cons_zero]; rfl); (rfl); intro K hK; (first | (refine wp_copyP (g := gO) (off := 0) (n := 12) (m := 4) (T := 30) (cur := (bv (List.replicate 12 0)).toArray) (ys := leP boot 4) rfl (by first | rfl | (go_simp; rfl)) (by first | rfl | (go_simp; rfl)) R11 hq5 (by decide) ?_; intro W2 y2 hu2) | (go_simp; (first | (go_at_call 70; refine (c_lePut boot 4 _ (by decide)).mono ?_; rintro e w5 ⟨v5, rfl, ho5, hb5⟩; obtain ⟨A5, ca5, rfl, lc5, -, hq5⟩ := ho5.form; rw [leP_length] at hq5 lc5; simp only [leP_length]; have R11 := Row.below (show Row W1.drew _ _ _ from k5) hb5 hz1) | skip))); refine hK _ _ ?_ ?_; (exact trivial); clear hK; try simp only [Act.put, List.setIfInBounds_toArray, List.set_cons_zero, List.set_cons_succ])); (first | (apply linN_pass (wayB _) (wayB _); (simp only [List.getElem?_toArray, List.getElem?_cons_succ, List.getElem?_cons_zero]; rfl); (rfl); try simp only [Act.put, List.setIfInBounds_toArray, List.set_cons_zero, List.set_cons_succ]) | (apply linN_op; (simp only [List.getElem?_toArray, List.getElem?_cons_succ, List.getElem?_cons_zero]; rfl); (rfl); intro K hK; (first | (refine wp_copyP (g := gO) (off := 0) (n := 12) (m := 4) (T := 30) (cur := (bv (List.replicate 12 0)).toArray) (ys := leP boot 4) rfl (by first | rfl | (go_simp; rfl)) (by first | rfl | (go_simp; rfl)) R11 hq5 (by decide) ?_; intro W2 y2 hu2) | (go_simp; (first | (go_at_call 70; refine (c_lePut boot 4 _ (by decide)).mono ?_; rintro e w5 ⟨v5, rfl, ho5, hb5⟩; obtain ⟨A5, ca5, rfl, lc5, -, hq5⟩ := ho5.form; rw [leP_length] at hq5 lc5; simp only [leP_length]; have R11 := Row.below (show Row W1.drew _ _ _ from k5) hb5 hz1) | skip))); refine hK _ _ ?_ ?_; (exact trivial); clear hK; try simp only [Act.put, List.setIfInBounds_toArray, List.set_cons_zero, List.set_cons_succ])); refine linN_end ?_)
  have k6 : Row W2 gO _ _ := hu2.row
  rw [copy_row] at k6
  have e6 : (List.replicate 12 (0 : UInt8)).take 0 ++ ((leP boot 4).take (min 4 12) ++ (List.replicate 12 0).drop (0 + min 4 12)) = leP boot 4 ++ List.replicate 8 0 := by
    rw [List.take_zero, List.nil_append, List.take_of_length_le (by rw [leP_length]; decide)]
    rfl
  rw [e6] at k6
  have k4' := (Row.below (show Row W1.drew _ _ _ from k4) hb5 (show _ < W1.heap.size by omega)).upd hu2 (by omega)
  have hB6 := (below_drew hB).trans ((hb5.mono (show _ ≤ W1.heap.size by omega)).trans (hu2.below (by omega)))
  have hz6 : gO < W2.heap.size := k6.lt
  clear e6 hu2 hb5 ho5 hq5 R11 k4 k5 hB hz1
  go_upto_region 3 with fail
  have hsl := slice_arr_from (P := Try.prog) (t := 30) Try.underlying30 (by kernel_rfl) gO 4 4 rfl (by decide)
  (refine wp_region_linN (Below W2.heap.size) (Below W2.heap.size) (wayB _) (wayB _) (fun _ _ h => h) (.free 0 (.free 1 (.op 2 [] [] [] (.op 3 [] [] [] .nil)))) rfl (by kernel_rfl) (by kernel_rfl) (fun _ _ _ _ _ h => h) ?_; (first | (apply linN_free; (simp only [List.getElem?_toArray, List.getElem?_cons_succ, List.getElem?_cons_zero]; rfl); (rfl); (intro w'; (first | (go_simp; done) | (go_simp; with_reducible rfl) | (go_simp; go_bits; with_reducible rfl) | (go_simp; go_bits; done))); try simp only [Act.put, List.setIfInBounds_toArray, List.set_cons_zero, List.set_cons_succ]) | (apply linN_freeSkip; (simp only [List.getElem?_toArray, List.getElem?_cons_succ, List.getElem?_cons_zero]; rfl); (rfl); try simp only [Act.put, List.setIfInBounds_toArray, List.set_cons_zero, List.set_cons_succ])); (first | (apply linN_free; (simp only [List.getElem?_toArray, List.getElem?_cons_succ, List.getElem?_cons_zero]; rfl); (rfl); (intro w'; (first | (go_simp; done) | (go_simp; with_reducible rfl) | (go_simp; go_bits; with_reducible rfl) | (go_simp; go_bits; done))); try simp only [Act.put, List.setIfInBounds_toArray, List.set_cons_zero, List.set_cons_succ]) | (apply linN_freeSkip; (simp only [List.getElem?_toArray, List.getElem?_cons_succ, List.getElem?_cons_zero]; rfl); (rfl); try simp only [Act.put, List.setIfInBounds_toArray, List.set_cons_zero, List.set_cons_succ])); (first | (apply linN_pass (wayB _) (wayB _); (simp only [List.getElem?_toArray, List.getElem?_cons_succ, List.getElem?_cons_zero]; rfl); (rfl); try simp only [Act.put, List.setIfInBounds_toArray, List.set_cons_zero, List.set_cons_succ]) | (apply linN_op; (simp only [List.getElem?_toArray, List.getElem?_cons_succ, List.getElem?_cons_zero]; rfl); (rfl); intro K hK; (first | (refine wp_copyP (g := gO) (off := 4) (n := 8) (m := 8) (T := 30) (cur := (bv (leP boot 4 ++ List.replicate 8 0)).toArray) (ys := leP seq 8) rfl (by first | rfl | (go_simp; rfl)) (by first | rfl | (go_simp; rfl)) R12 hq6 (by simp [bv_length, leP_length]) ?_; intro W3 y3 hu3) | (go_simp; (first | (go_at_call 70; refine (c_lePut seq 8 _ (by decide)).mono ?_; rintro e w6 ⟨v6, rfl, ho6, hb6⟩; obtain ⟨A6, ca6, rfl, lc6, -, hq6⟩ := ho6.form; rw [leP_length] at hq6 lc6; simp only [leP_length]; have R12 := Row.below (show Row W2.drew _ _ _ from k6) hb6 hz6) | skip))); refine hK _ _ ?_ ?_; (exact trivial); clear hK; try simp only [Act.put, List.setIfInBounds_toArray, List.set_cons_zero, List.set_cons_succ])); (first | (apply linN_pass (wayB _) (wayB _); (simp only [List.getElem?_toArray, List.getElem?_cons_succ, List.getElem?_cons_zero]; rfl); (rfl); try simp only [Act.put, List.setIfInBounds_toArray, List.set_cons_zero, List.set_cons_succ]) | (apply linN_op; (simp only [List.getElem?_toArray, List.getElem?_cons_succ, List.getElem?_cons_zero]; rfl); (rfl); intro K hK; (first | (refine wp_copyP (g := gO) (off := 4) (n := 8) (m := 8) (T := 30) (cur := (bv (leP boot 4 ++ List.replicate 8 0)).toArray) (ys := leP seq 8) rfl (by first | rfl | (go_simp; rfl)) (by first | rfl | (go_simp; rfl)) R12 hq6 (by simp [bv_length, leP_length]) ?_; intro W3 y3 hu3) | (go_simp; (first | (go_at_call 70; refine (c_lePut seq 8 _ (by decide)).mono ?_; rintro e w6 ⟨v6, rfl, ho6, hb6⟩; obtain ⟨A6, ca6, rfl, lc6, -, hq6⟩ := ho6.form; rw [leP_length] at hq6 lc6; simp only [leP_length]; have R12 := Row.below (show Row W2.drew _ _ _ from k6) hb6 hz6) | skip))); refine hK _ _ ?_ ?_; (exact trivial); clear hK; try simp only [Act.put, List.setIfInBounds_toArray, List.set_cons_zero, List.set_cons_succ])); refine linN_end ?_)
  have k7 := hu3.row
  rw [copy_row] at k7
  have e7 : (leP boot 4 ++ List.replicate 8 (0 : UInt8)).take 4 ++ ((leP seq 8).take (min 8 8) ++ (leP boot 4 ++ List.replicate 8 0).drop (4 + min 8 8)) = headL12 boot seq := by
    rw [List.take_append_of_le_length (by rw [leP_length]; exact Nat.le_refl _), List.take_of_length_le (by rw [leP_length]; exact Nat.le_refl _), List.take_of_length_le (by rw [leP_length]; decide), List.drop_of_length_le (by simp [leP_length]), List.append_nil]
    rfl
  rw [e7] at k7
  have k4'' := (Row.below (show Row W2.drew _ _ _ from k4') hb6 (show _ < W2.heap.size by omega)).upd hu3 (by omega)
  have hB7 := (below_drew hB6).trans ((hb6.mono (show _ ≤ W2.heap.size by omega)).trans (hu3.below (by omega)))
  have hln := headL12_length boot seq
  have HLN := Lib.hid hln
  have hall := bv_all (headL12 boot seq)
  clear e7 hu3 hb6 ho6 hq6 R12 k4' k6 hB6 hz6 hsl hln hw6
  have HHD : IsHd boot seq (headL12 boot seq) := ⟨rfl⟩
  generalize headL12 boot seq = H at *
  go_wp2_with (first | (apply wpl_loadS (ty := 30); rfl; rfl; rfl; kernel_rfl; exact k7; (simp only [List.size_toArray, bv_length, HLN.out]; kernel_rfl); simp only [Act.put, List.setIfInBounds_toArray, List.set_cons_zero, List.set_cons_succ]) | (apply wpl_storeX; rfl; rfl; rfl; rfl; exact k4''; (simp only [List.size_toArray, bv_length, HLN.out]; kernel_rfl); (simp only [List.size_toArray, bv_length, HLN.out]; rfl); exact hall; intro W6 hW6; simp only [Act.put]))
  refine bodyPost_ret (results_cell1 rfl rfl (run_loadRow _ _ _ _ _ 0 hW6.row (by simp only [List.size_toArray, bv_length, HLN.out]; kernel_rfl) (by kernel_rfl))) rfl ⟨?_, hB7.trans (hW6.below (by omega))⟩
  rw [HHD.out]
set_option maxHeartbeats 1000000 in
set_option maxRecDepth 100000 in
theorem c_rHead (boot seq : Nat) (hb : boot < 4294967296) (w : World) :
    Calls Try.prog 45 #[.int .u32 (boot : Int), .int .u64 (seq : Int)] w fun e w' => e = .returned (.agg (bv (headL12 boot seq)).toArray) ∧ Below w.heap.size w w' := by
  obtain ⟨h4, h5, hz, hB⟩ := alloc2 w #[.int .u8 0, .int .u8 0, .int .u8 0, .int .u8 0, .int .u8 0, .int .u8 0, .int .u8 0, .int .u8 0, .int .u8 0, .int .u8 0, .int .u8 0, .int .u8 0] 30 #[.int .u8 0, .int .u8 0, .int .u8 0, .int .u8 0, .int .u8 0, .int .u8 0, .int .u8 0, .int .u8 0, .int .u8 0, .int .u8 0, .int .u8 0, .int .u8 0] 30
  have hw6 : IntKind.u64.wrap (boot : Int) = (boot : Int) := IntWalk.u64_in _ ⟨by omega, by omega⟩
  have hb1 : (boot : Int) < 4294967296 := by omega
  go_enter Try.func45, Try.ntmps45
  go_upto_region 2 with fail
  generalize (w.alloc (.cells #[.int .u8 0, .int .u8 0, .int .u8 0, .int .u8 0, .int .u8 0, .int .u8 0, .int .u8 0, .int .u8 0, .int .u8 0, .int .u8 0, .int .u8 0, .int .u8 0] 30)).alloc (.cells #[.int .u8 0, .int .u8 0, .int .u8 0, .int .u8 0, .int .u8 0, .int .u8 0, .int .u8 0, .int .u8 0, .int .u8 0, .int .u8 0, .int .u8 0, .int .u8 0] 30) = W1 at *
  have k4 : Row W1 w.heap.size (bv (List.replicate 12 0)).toArray 30 := h4
  have k5 : Row W1 (w.heap.size + 1) (bv (List.replicate 12 0)).toArray 30 := h5
  have hz1 : w.heap.size + 1 < W1.heap.size := by omega
  generalize hgO : w.heap.size + 1 = gO at *
  clear h4 h5 hz
  have hhl : leP boot 4 ++ leP seq 8 = headL12 boot seq := rfl
  have HHL := Lib.hid hhl
  have hln := headL12_length boot seq
  have HLN := Lib.hid hln
  clear hhl hln
  have HHD : IsHd boot seq (headL12 boot seq) := ⟨rfl⟩
  generalize headL12 boot seq = H at *
  have hl48 : (leP boot 4).length + 8 ≤ 140737488355328 := by rw [leP_length]; decide
  (refine wp_region_linN (Below W1.heap.size) (Below W1.heap.size) (wayB _) (wayB _) (fun _ _ h => h) (.free 0 (.free 1 (.hot 2 (.free 4 (.op 3 [(2, 3)] [] [] (.op 5 [] [] [] (.op 6 [] [] [] (.op 7 [] [] [] .nil)))))))) rfl (by kernel_rfl) (by kernel_rfl) (fun _ _ _ _ _ h => h) ?_; (first | (apply linN_free; (simp only [List.getElem?_toArray, List.getElem?_cons_succ, List.getElem?_cons_zero]; rfl); (rfl); (intro w'; (first | (go_simp; done) | (go_simp; with_reducible rfl) | (go_simp; go_bits; with_reducible rfl) | (go_simp; go_bits; done))); try simp only [Act.put, List.setIfInBounds_toArray, List.set_cons_zero, List.set_cons_succ]) | (apply linN_freeSkip; (simp only [List.getElem?_toArray, List.getElem?_cons_succ, List.getElem?_cons_zero]; rfl); (rfl); try simp only [Act.put, List.setIfInBounds_toArray, List.set_cons_zero, List.set_cons_succ])); (first | (apply linN_free; (simp only [List.getElem?_toArray, List.getElem?_cons_succ, List.getElem?_cons_zero]; rfl); (rfl); (intro w'; (first | (go_simp; done) | (go_simp; with_reducible rfl) | (go_simp; go_bits; with_reducible rfl) | (go_simp; go_bits; done))); try simp only [Act.put, List.setIfInBounds_toArray, List.set_cons_zero, List.set_cons_succ]) | (apply linN_freeSkip; (simp only [List.getElem?_toArray, List.getElem?_cons_succ, List.getElem?_cons_zero]; rfl); (rfl); try simp only [Act.put, List.setIfInBounds_toArray, List.set_cons_zero, List.set_cons_succ])); (first | (apply linN_hot; (simp only [List.getElem?_toArray, List.getElem?_cons_succ, List.getElem?_cons_zero]; rfl); (rfl); (intro w' hb'; (first | (go_simp; done) | (go_simp; with_reducible rfl) | (go_simp; go_bits; with_reducible rfl) | (go_simp; go_bits; done))); try simp only [Act.put, List.setIfInBounds_toArray, List.set_cons_zero, List.set_cons_succ]) | (apply linN_hotSkip; (simp only [List.getElem?_toArray, List.getElem?_cons_succ, List.getElem?_cons_zero]; rfl); (rfl); try simp only [Act.put, List.setIfInBounds_toArray, List.set_cons_zero, List.set_cons_succ])); (first | (apply linN_free; (simp only [List.getElem?_toArray, List.getElem?_cons_succ, List.getElem?_cons_zero]; rfl); (rfl); (intro w'; (first | (go_simp; done) | (go_simp; with_reducible rfl) | (go_simp; go_bits; with_reducible rfl) | (go_simp; go_bits; done))); try simp only [Act.put, List.setIfInBounds_toArray, List.set_cons_zero, List.set_cons_succ]) | (apply linN_freeSkip; (simp only [List.getElem?_toArray, List.getElem?_cons_succ, List.getElem?_cons_zero]; rfl); (rfl); try simp only [Act.put, List.setIfInBounds_toArray, List.set_cons_zero, List.set_cons_succ])); (first | (apply linN_pass (wayB _) (wayB _); (simp only [List.getElem?_toArray, List.getElem?_cons_succ, List.getElem?_cons_zero]; rfl); (rfl); try simp only [Act.put, List.setIfInBounds_toArray, List.set_cons_zero, List.set_cons_succ]) | (apply linN_op; (simp only [List.getElem?_toArray, List.getElem?_cons_succ, List.getElem?_cons_zero]; rfl); (rfl); intro K hK; (first | (refine wp_cat (w0 := W1.drew) (m := 8) _ _ 22 rfl W1.heap.size 5 Try.underlying22 info_u8 (ho5.below hb6) (by first | rfl | (go_simp; rfl)) hq6 (by first | rfl | (go_simp; rfl)) (hb5.trans (hb6.mono hb5.size)) (Nat.le_trans hb5.size hb6.size) hl48 ?_; intro v7 w7 ho7 hb7 hg7 hv7; rw [HHL.out] at ho7; obtain ⟨A7, ca7, rfl, lc7, -, hq7⟩ := ho7.form; rw [HLN.out] at hq7 lc7; simp only [HLN.out]; have R13 := Row.below (show Row W1.drew _ _ _ from k5) hb7 hz1) | (refine wp_copyP (g := gO) (off := 0) (n := 12) (m := 12) (T := 30) (cur := (bv (List.replicate 12 0)).toArray) (ys := H) rfl (by first | rfl | (go_simp; rfl)) (by first | rfl | (go_simp; rfl)) R13 hq7 (by decide) ?_; intro W2 y2 hu2) | (go_simp; (first | (go_at_call 77; (with_reducible refine (c_rPut4 boot _).mono ?_); rintro e w5 ⟨A5, ca5, rfl, lc5, ho5, hq5, hb5⟩) | (go_at_call 77; (with_reducible refine (c_rPut8 seq _).mono ?_); rintro e w6 ⟨A6, ca6, rfl, lc6, ho6, hq6, hb6⟩) | skip))); refine hK _ _ ?_ ?_; (exact trivial); clear hK; try simp only [Act.put, List.setIfInBounds_toArray, List.set_cons_zero, List.set_cons_succ])); (first | (apply linN_pass (wayB _) (wayB _); (simp only [List.getElem?_toArray, List.getElem?_cons_succ, List.getElem?_cons_zero]; rfl); (rfl); try simp only [Act.put, List.setIfInBounds_toArray, List.set_cons_zero, List.set_cons_succ]) | (apply linN_op; (simp only [List.getElem?_toArray, List.getElem?_cons_succ, List.getElem?_cons_zero]; rfl); (rfl); intro K hK; (first | (refine wp_cat (w0 := W1.drew) (m := 8) _ _ 22 rfl W1.heap.size 5 Try.underlying22 info_u8 (ho5.below hb6) (by first | rfl | (go_simp; rfl)) hq6 (by first | rfl | (go_simp; rfl)) (hb5.trans (hb6.mono hb5.size)) (Nat.le_trans hb5.size hb6.size) hl48 ?_; intro v7 w7 ho7 hb7 hg7 hv7; rw [HHL.out] at ho7; obtain ⟨A7, ca7, rfl, lc7, -, hq7⟩ := ho7.form; rw [HLN.out] at hq7 lc7; simp only [HLN.out]; have R13 := Row.below (show Row W1.drew _ _ _ from k5) hb7 hz1) | (refine wp_copyP (g := gO) (off := 0) (n := 12) (m := 12) (T := 30) (cur := (bv (List.replicate 12 0)).toArray) (ys := H) rfl (by first | rfl | (go_simp; rfl)) (by first | rfl | (go_simp; rfl)) R13 hq7 (by decide) ?_; intro W2 y2 hu2) | (go_simp; (first | (go_at_call 77; (with_reducible refine (c_rPut4 boot _).mono ?_); rintro e w5 ⟨A5, ca5, rfl, lc5, ho5, hq5, hb5⟩) | (go_at_call 77; (with_reducible refine (c_rPut8 seq _).mono ?_); rintro e w6 ⟨A6, ca6, rfl, lc6, ho6, hq6, hb6⟩) | skip))); refine hK _ _ ?_ ?_; (exact trivial); clear hK; try simp only [Act.put, List.setIfInBounds_toArray, List.set_cons_zero, List.set_cons_succ])); (first | (apply linN_pass (wayB _) (wayB _); (simp only [List.getElem?_toArray, List.getElem?_cons_succ, List.getElem?_cons_zero]; rfl); (rfl); try simp only [Act.put, List.setIfInBounds_toArray, List.set_cons_zero, List.set_cons_succ]) | (apply linN_op; (simp only [List.getElem?_toArray, List.getElem?_cons_succ, List.getElem?_cons_zero]; rfl); (rfl); intro K hK; (first | (refine wp_cat (w0 := W1.drew) (m := 8) _ _ 22 rfl W1.heap.size 5 Try.underlying22 info_u8 (ho5.below hb6) (by first | rfl | (go_simp; rfl)) hq6 (by first | rfl | (go_simp; rfl)) (hb5.trans (hb6.mono hb5.size)) (Nat.le_trans hb5.size hb6.size) hl48 ?_; intro v7 w7 ho7 hb7 hg7 hv7; rw [HHL.out] at ho7; obtain ⟨A7, ca7, rfl, lc7, -, hq7⟩ := ho7.form; rw [HLN.out] at hq7 lc7; simp only [HLN.out]; have R13 := Row.below (show Row W1.drew _ _ _ from k5) hb7 hz1) | (refine wp_copyP (g := gO) (off := 0) (n := 12) (m := 12) (T := 30) (cur := (bv (List.replicate 12 0)).toArray) (ys := H) rfl (by first | rfl | (go_simp; rfl)) (by first | rfl | (go_simp; rfl)) R13 hq7 (by decide) ?_; intro W2 y2 hu2) | (go_simp; (first | (go_at_call 77; (with_reducible refine (c_rPut4 boot _).mono ?_); rintro e w5 ⟨A5, ca5, rfl, lc5, ho5, hq5, hb5⟩) | (go_at_call 77; (with_reducible refine (c_rPut8 seq _).mono ?_); rintro e w6 ⟨A6, ca6, rfl, lc6, ho6, hq6, hb6⟩) | skip))); refine hK _ _ ?_ ?_; (exact trivial); clear hK; try simp only [Act.put, List.setIfInBounds_toArray, List.set_cons_zero, List.set_cons_succ])); (first | (apply linN_pass (wayB _) (wayB _); (simp only [List.getElem?_toArray, List.getElem?_cons_succ, List.getElem?_cons_zero]; rfl); (rfl); try simp only [Act.put, List.setIfInBounds_toArray, List.set_cons_zero, List.set_cons_succ]) | (apply linN_op; (simp only [List.getElem?_toArray, List.getElem?_cons_succ, List.getElem?_cons_zero]; rfl); (rfl); intro K hK; (first | (refine wp_cat (w0 := W1.drew) (m := 8) _ _ 22 rfl W1.heap.size 5 Try.underlying22 info_u8 (ho5.below hb6) (by first | rfl | (go_simp; rfl)) hq6 (by first | rfl | (go_simp; rfl)) (hb5.trans (hb6.mono hb5.size)) (Nat.le_trans hb5.size hb6.size) hl48 ?_; intro v7 w7 ho7 hb7 hg7 hv7; rw [HHL.out] at ho7; obtain ⟨A7, ca7, rfl, lc7, -, hq7⟩ := ho7.form; rw [HLN.out] at hq7 lc7; simp only [HLN.out]; have R13 := Row.below (show Row W1.drew _ _ _ from k5) hb7 hz1) | (refine wp_copyP (g := gO) (off := 0) (n := 12) (m := 12) (T := 30) (cur := (bv (List.replicate 12 0)).toArray) (ys := H) rfl (by first | rfl | (go_simp; rfl)) (by first | rfl | (go_simp; rfl)) R13 hq7 (by decide) ?_; intro W2 y2 hu2) | (go_simp; (first | (go_at_call 77; (with_reducible refine (c_rPut4 boot _).mono ?_); rintro e w5 ⟨A5, ca5, rfl, lc5, ho5, hq5, hb5⟩) | (go_at_call 77; (with_reducible refine (c_rPut8 seq _).mono ?_); rintro e w6 ⟨A6, ca6, rfl, lc6, ho6, hq6, hb6⟩) | skip))); refine hK _ _ ?_ ?_; (exact trivial); clear hK; try simp only [Act.put, List.setIfInBounds_toArray, List.set_cons_zero, List.set_cons_succ])); refine linN_end ?_)
  have k6 : Row W2 gO _ _ := hu2.row
  rw [copy_row] at k6
  have e6 : (List.replicate 12 (0 : UInt8)).take 0 ++ (H.take (min 12 12) ++ (List.replicate 12 0).drop (0 + min 12 12)) = H := by
    rw [List.take_zero, List.nil_append, List.take_of_length_le (by rw [HLN.out]; decide)]
    simp
  rw [e6] at k6
  have k4' := (Row.below (show Row W1.drew _ _ _ from k4) hb7 (show _ < W1.heap.size by omega)).upd hu2 (by omega)
  have hB6 := (below_drew hB).trans ((hb7.mono (show _ ≤ W1.heap.size by omega)).trans (hu2.below (by omega)))
  have hall := bv_all H
  clear e6 hu2 hb7 ho7 hq7 R13 k4 k5 hB hz1 hw6 ho5 hb5 hq5 ho6 hb6 hq6
  go_wp2_with (first | (apply wpl_loadS (ty := 30); rfl; rfl; rfl; kernel_rfl; exact k6; (simp only [List.size_toArray, bv_length, HLN.out]; kernel_rfl); simp only [Act.put, List.setIfInBounds_toArray, List.set_cons_zero, List.set_cons_succ]) | (apply wpl_storeX; rfl; rfl; rfl; rfl; exact k4'; (simp only [List.size_toArray, bv_length, HLN.out]; kernel_rfl); (simp only [List.size_toArray, bv_length, HLN.out]; rfl); exact hall; intro W6 hW6; simp only [Act.put]))
  refine bodyPost_ret (results_cell1 rfl rfl (run_loadRow _ _ _ _ _ 0 hW6.row (by simp only [List.size_toArray, bv_length, HLN.out]; kernel_rfl) (by kernel_rfl))) rfl ⟨by rw [HHD.out], hB6.trans (hW6.below (by omega))⟩
end Go.Proofs.Ytlbpmboknmbcgaa
