/- The bank: State; bits. -/
import Derived.Test.YtmdmhjcdaejlkaaBankC
set_option linter.unusedVariables false
set_option linter.unusedSimpArgs false
namespace Go.Proofs.Ytmdmhjcdaejlkaa
open Go.RowKit

variable {W : World} {base b n g gB gp at_ boot seq : Nat} {D : Dk} {key : List UInt8} {l : List (Bool × Bool)}
/-- a byte of eight bits -/
def byteN (f : Nat → Bool) : Nat := (if f 0 then 1 else 0) + (if f 1 then 2 else 0) + (if f 2 then 4 else 0) + (if f 3 then 8 else 0) + (if f 4 then 16 else 0) + (if f 5 then 32 else 0) + (if f 6 then 64 else 0) + (if f 7 then 128 else 0)
theorem byteN_lt (f : Nat → Bool) : byteN f < 256 := by
  unfold byteN
  have h : ∀ (b : Bool) (k : Nat), (if b = true then k else 0) ≤ k := fun b k => by cases b <;> simp
  have := h (f 0) 1; have := h (f 1) 2; have := h (f 2) 4; have := h (f 3) 8; have := h (f 4) 16; have := h (f 5) 32; have := h (f 6) 64; have := h (f 7) 128
  omega
def byteB (c0 c1 c2 c3 c4 c5 c6 c7 : Bool) : Nat := (if c0 then 1 else 0) + (if c1 then 2 else 0) + (if c2 then 4 else 0) + (if c3 then 8 else 0) + (if c4 then 16 else 0) + (if c5 then 32 else 0) + (if c6 then 64 else 0) + (if c7 then 128 else 0)
theorem byteN_eq (f : Nat → Bool) : byteN f = byteB (f 0) (f 1) (f 2) (f 3) (f 4) (f 5) (f 6) (f 7) := rfl
theorem byteN_or (f : Nat → Bool) (r : Nat) (hr : r < 8) : byteN f ||| 2 ^ r = byteN fun b => f b || b == r := by
  rw [byteN_eq, byteN_eq]
  generalize f 0 = c0; generalize f 1 = c1; generalize f 2 = c2; generalize f 3 = c3; generalize f 4 = c4; generalize f 5 = c5; generalize f 6 = c6; generalize f 7 = c7
  rcases (show r = 0 ∨ r = 1 ∨ r = 2 ∨ r = 3 ∨ r = 4 ∨ r = 5 ∨ r = 6 ∨ r = 7 by omega) with rfl | rfl | rfl | rfl | rfl | rfl | rfl | rfl <;>
    (revert c0 c1 c2 c3 c4 c5 c6 c7; decide +kernel)
theorem byteN_bit (f : Nat → Bool) (r : Nat) (hr : r < 8) : byteN f / 2 ^ r % 2 = if f r then 1 else 0 := by
  rw [byteN_eq]
  rcases (show r = 0 ∨ r = 1 ∨ r = 2 ∨ r = 3 ∨ r = 4 ∨ r = 5 ∨ r = 6 ∨ r = 7 by omega) with rfl | rfl | rfl | rfl | rfl | rfl | rfl | rfl <;>
    (generalize f 0 = c0; generalize f 1 = c1; generalize f 2 = c2; generalize f 3 = c3; generalize f 4 = c4; generalize f 5 = c5; generalize f 6 = c6; generalize f 7 = c7
     revert c0 c1 c2 c3 c4 c5 c6 c7; decide +kernel)
theorem byteN_of (x : Nat) (hx : x < 256) : byteN (fun b => decide (x / 2 ^ b % 2 = 1)) = x := by
  have : ∀ y : Fin 256, byteN (fun b => decide (y.val / 2 ^ b % 2 = 1)) = y.val := by decide +kernel
  exact this ⟨x, hx⟩
theorem byteN_ext {f h : Nat → Bool} (e : ∀ b, b < 8 → f b = h b) : byteN f = byteN h := by
  rw [byteN_eq, byteN_eq, e 0 (by decide), e 1 (by decide), e 2 (by decide), e 3 (by decide), e 4 (by decide), e 5 (by decide), e 6 (by decide), e 7 (by decide)]
/-- the first k places' second blocks, as m bytes -/
def stU (l : List (Bool × Bool)) (m k : Nat) : List UInt8 := (List.range m).map fun j => UInt8.ofNat (byteN fun b => decide (8 * j + b < k) && (l[8 * j + b]?.getD (false, false)).1)
theorem stU_length (l : List (Bool × Bool)) (m k : Nat) : (stU l m k).length = m := by unfold stU; simp
theorem stU_get (l : List (Bool × Bool)) (m k j : Nat) (h : j < m) : (stU l m k)[j]? = some (UInt8.ofNat (byteN fun b => decide (8 * j + b < k) && (l[8 * j + b]?.getD (false, false)).1)) := by
  unfold stU
  rw [List.getElem?_map, List.getElem?_range h]
  rfl
theorem stU_zero (l : List (Bool × Bool)) (m : Nat) : stU l m 0 = List.replicate m 0 := by
  apply List.ext_getElem?
  intro j
  rw [List.getElem?_replicate]
  rcases Nat.lt_or_ge j m with c | c
  · rw [stU_get _ _ _ _ c, if_pos c]
    congr 1
  · rw [List.getElem?_eq_none (by rw [stU_length]; exact c), if_neg (by omega)]
theorem stU_no (l : List (Bool × Bool)) (m k : Nat) (h : (l[k]?.getD (false, false)).1 = false) : stU l m (k + 1) = stU l m k := by
  unfold stU
  apply List.map_congr_left
  intro j _
  congr 1
  apply byteN_ext
  intro b _
  by_cases e : 8 * j + b = k
  · rw [e, h]; simp
  · congr 1
    exact decide_eq_decide.2 (by omega)
theorem stU_yes (l : List (Bool × Bool)) (m k : Nat) (h : (l[k]?.getD (false, false)).1 = true) (hk : k / 8 < m) (y : UInt8) (hy : ∃ x : UInt8, (stU l m k)[k / 8]? = some x ∧ y.toNat = x.toNat ||| 2 ^ (k % 8)) : (stU l m k).set (k / 8) y = stU l m (k + 1) := by
  obtain ⟨x, hx, hy⟩ := hy
  rw [stU_get _ _ _ _ hk] at hx
  apply List.ext_getElem?
  intro j
  rw [List.getElem?_set]
  split
  · rename_i e
    subst e
    rw [if_pos (by rw [stU_length]; exact hk), stU_get _ _ _ _ hk]
    congr 1
    cases hx
    apply UInt8.toNat_inj.1
    have h1 := byteN_lt fun b => decide (8 * (k / 8) + b < k) && (l[8 * (k / 8) + b]?.getD (false, false)).1
    have h2 := byteN_lt fun b => decide (8 * (k / 8) + b < k + 1) && (l[8 * (k / 8) + b]?.getD (false, false)).1
    rw [hy, UInt8.toNat_ofNat_of_lt' h1, UInt8.toNat_ofNat_of_lt' h2, byteN_or _ _ (by omega)]
    apply byteN_ext
    intro b hb
    by_cases e : b = k % 8
    · subst e
      have e2 : 8 * (k / 8) + k % 8 = k := by omega
      rw [e2, h]
      simp
    · have : (b == k % 8) = false := by simpa using e
      rw [this, Bool.or_false]
      congr 1
      exact decide_eq_decide.2 (by omega)
  · rename_i e
    rcases Nat.lt_or_ge j m with c | c
    · rw [stU_get _ _ _ _ c, stU_get _ _ _ _ c]
      congr 2
      apply byteN_ext
      intro b hb
      congr 1
      exact decide_eq_decide.2 (by omega)
    · rw [List.getElem?_eq_none (by rw [stU_length]; exact c), List.getElem?_eq_none (by rw [stU_length]; exact c)]
/-- the state -/
def stL (l : List (Bool × Bool)) : List UInt8 := stU l ((l.length + 7) / 8) l.length
theorem own_rowK {w : World} {B g n : Nat} {xs : List UInt8} (h : OwnB w B 5 (.slice (some ⟨g, 0, none⟩) n n) xs) (hx : xs.length = n) : Row w g (bv xs).toArray 5 := by
  rcases h.2 with ⟨e, _⟩ | ⟨g', cap, cur, e, hg, hh, q1, q2, q3, q4⟩
  · cases e
  · simp only [Value.slice.injEq, Option.some.injEq, Addr.mk.injEq, and_true, true_and] at e
    obtain ⟨rfl, -, rfl⟩ := e
    have : cur = (bv xs).toArray := by
      apply Array.toList_inj.1
      rw [← q4, List.take_of_length_le (by rw [Array.length_toList]; omega)]
    subst this
    exact hh
theorem row_ownK {w : World} {B g n : Nat} {xs : List UInt8} (h : Row w g (bv xs).toArray 5) (hx : xs.length = n) (hg : B ≤ g) (hn : n ≤ maxLen) : OwnB w B 5 (.slice (some ⟨g, 0, none⟩) n n) xs := by
  refine ⟨by rw [bv_length]; omega, .inr ⟨g, n, (bv xs).toArray, by rw [hx], hg, h, by omega, hn, by rw [List.size_toArray, bv_length]; omega, ?_⟩⟩
  rw [List.take_of_length_le (by rw [Array.length_toList, List.size_toArray, bv_length]; omega)]
theorem or_bit (x : UInt8) (r : Nat) (hr : r < 8) : ∃ y : UInt8, bits .or .u8 (x.toNat : Int) (IntKind.u8.wrap (2 ^ r)) = (y.toNat : Int) ∧ y.toNat = x.toNat ||| 2 ^ r := by
  have h1 : IntKind.u8.wrap ((2 : Int) ^ r) = ((2 ^ r : Nat) : Int) := by
    rcases (show r = 0 ∨ r = 1 ∨ r = 2 ∨ r = 3 ∨ r = 4 ∨ r = 5 ∨ r = 6 ∨ r = 7 by omega) with rfl | rfl | rfl | rfl | rfl | rfl | rfl | rfl <;> decide
  have h2 : 2 ^ r < 256 := Nat.pow_lt_pow_right (by decide) hr
  have h3 : x.toNat ||| 2 ^ r < 256 := Nat.or_lt_two_pow (n := 8) x.toNat_lt h2
  refine ⟨UInt8.ofNat (x.toNat ||| 2 ^ r), ?_, UInt8.toNat_ofNat_of_lt' h3⟩
  rw [h1, Go.u8_or_nat _ _ x.toNat_lt h2, UInt8.toNat_ofNat_of_lt' h3]
set_option maxHeartbeats 4000000 in
set_option maxRecDepth 100000 in
theorem c_bkState (h : BankAt W gB gp g at_ l) (hll : l.length ≤ 100000) :
    Calls Try.prog 51 #[.pointer (some ⟨gB, 0, none⟩)] W fun e w' => ∃ v, e = .returned v ∧ OwnB w' W.heap.size 5 v (stL l) ∧ Below W.heap.size W w' := by
  obtain ⟨N, hN⟩ : ∃ N, l.length = N := ⟨_, rfl⟩
  rw [hN] at hll
  have c2 : W.cell? ⟨gB, 2, none⟩ = some (.slice (some ⟨gp, 0, none⟩) N N) := by rw [← hN]; exact h.row.cell 2 rfl
  obtain ⟨m, hm⟩ : ∃ m, (N + 7) / 8 = m := ⟨_, rfl⟩
  have e1 : IntKind.i64.wrap ((N : Int) + 7) = ((N + 7 : Nat) : Int) := IntWalk.i64_in _ (by omega)
  have e2 : ((N + 7 : Nat) : Int).tdiv 8 = (m : Int) := by rw [Int.tdiv_eq_ediv_of_nonneg (by omega)]; omega
  have e3 : ((N + 7 : Nat) : Int) / 8 = (m : Int) := by omega
  have e4 : ((N : Int) + 7) / 8 = (m : Int) := by omega
  have e5 : IntKind.i64.wrap (m : Int) = (m : Int) := IntWalk.i64_in _ (by omega)
  obtain ⟨W1, hmk, ho1, hb1⟩ := run_mkB W m (by omega)
  have r1 := own_rowK ho1 (by simp)
  have h1 := h.up hb1
  have hst : stL l = stU l m N := by unfold stL; rw [hN, hm]
  have H0 := Lib.hid hst
  clear h hst ho1
  go_enter Try.func51, Try.ntmps51
  go_upto_region 2 with fail
  have c3 : W1.cell? ⟨gB, 2, none⟩ = some (.slice (some ⟨gp, 0, none⟩) N N) := by rw [← hN]; exact h1.row.cell 2 rfl
  go_upto_region 3 with fail
  rw [← stU_zero l m] at r1
  obtain ⟨go, hgo⟩ : ∃ go, W.heap.size = go := ⟨_, rfl⟩
  rw [hgo] at r1 hb1 ⊢
  clear c2 c3 hmk e1 e2 e3 e4 e5
  go_loopw [19] (fun s19 wr => ∃ k : Nat, k ≤ N ∧ s19 = .int .i64 (k : Int) ∧ BankAt wr gB gp g at_ l ∧ Row wr go (bv (stU l m k)).toArray 5 ∧ Below go W wr) (fun s19 _ => (N - intOf s19).toNat)
  case atStart => exact ⟨0, Nat.zero_le _, rfl, h1, r1, hb1⟩
  case round =>
    clear h1 r1 hb1
    obtain ⟨k, hk, rfl, h, hr, hb⟩ := hrel
    by_cases hlt : k < N
    · have hlt2 : (k : Int) < (N : Int) := by omega
      obtain ⟨⟨s, f⟩, hsf⟩ : ∃ p, l[k]? = some p := ⟨_, List.getElem?_eq_getElem (by omega)⟩
      have p0 : wr.cell? ⟨gp, k * 2, none⟩ = some (.bool s) := by rw [Nat.mul_comm]; exact h.pl.cell (2 * k) (by simp [pcs_get0, hsf])
      have p1 : wr.cell? ⟨gp, k * 2 + 1, none⟩ = some (.bool f) := by rw [Nat.mul_comm]; exact h.pl.cell (2 * k + 1) (by simp [pcs_get1, hsf])
      have hgs : go < wr.heap.size := hr.lt
      cases s with
      | false =>
        have hno := stU_no l m k (by rw [hsf]; rfl)
        rw [← hno] at hr
        have hb4 := below_alloc (Below.refl wr.heap.size wr) (.cells #[.bool false, .bool f] 117)
        have HX := Lib.hid (And.intro (h.up hb4) (And.intro (hr.below hb4 hgs) (hb.trans (hb4.mono (Nat.le_of_lt hgs)))))
        have hk1 : IntKind.i64.wrap ((k : Int) + 1) = ((k + 1 : Nat) : Int) := IntWalk.i64_in _ (by omega)
        clear hr hb hb4 h hno hsf
        go_wp2
        refine ⟨?rel, ?measure⟩
        case rel => exact ⟨k + 1, by omega, by go_num, HX.out.1, HX.out.2.1, HX.out.2.2⟩
        case measure => simp [intOf]; omega
      | true =>
        go_upto_region 6 with fail
        have hb4 := below_alloc (Below.refl wr.heap.size wr) (.cells #[.bool true, .bool f] 117)
        have h4 := h.up hb4
        have r4 := hr.below hb4 hgs
        have hbb := hb.trans (hb4.mono (Nat.le_of_lt hgs))
        have hyes := fun y hy => stU_yes l m k (by rw [hsf]; rfl) (by omega) y hy
        clear hr hb hb4 h p0 p1
        generalize wr.alloc (.cells #[.bool true, .bool f] 117) = w4 at *
        obtain ⟨q, hq⟩ : ∃ q, k / 8 = q := ⟨_, rfl⟩
        obtain ⟨r, hrr⟩ : ∃ r, k % 8 = r := ⟨_, rfl⟩
        rw [hq, hrr] at hyes
        have hqm : q < m := by omega
        have hr8 : r < 8 := by omega
        obtain ⟨x, hx⟩ : ∃ x, (stU l m k)[q]? = some x := ⟨_, List.getElem?_eq_getElem (by rw [stU_length]; exact hqm)⟩
        have q1 : (k : Int).tdiv 8 = (q : Int) := by rw [Int.tdiv_eq_ediv_of_nonneg (by omega)]; omega
        have q2 : (k : Int) / 8 = (q : Int) := by omega
        have q3 : (k : Int).tmod 8 = (r : Int) := by rw [Int.tmod_eq_emod_of_nonneg (by omega)]; omega
        have q4 : (k : Int) % 8 = (r : Int) := by omega
        have q5 : IntKind.i64.wrap (q : Int) = (q : Int) := IntWalk.i64_in _ (by omega)
        have k0 : w4.drew.cell? ⟨go, q, none⟩ = some (.int .u8 (x.toNat : Int)) := r4.cell q (by simp [bv_get, hx])
        have z0 : w4.drew.frozen? ⟨go, q, none⟩ = false := r4.free q
        have HY := Lib.hid hyes
        have HXX := Lib.hid hx
        clear hyes hx hsf hq hrr
        obtain ⟨y, hy1, hy2⟩ := or_bit x r hr8
        have HY2 := Lib.hid hy2
        clear hy2
        (refine wp_region_linN (KpP) (KpP) (wayKpP) (wayKpP) (fun _ _ h => h) (.free 0 (.free 1 (.free 2 (.free 3 (.hot 4 (.free 5 (.free 6 (.free 7 (.free 8 (.free 9 (.op 10 [(4, 10)] [] [] .nil))))))))))) rfl (by kernel_rfl) (by kernel_rfl) (fun _ _ _ _ _ h => h) ?_; (first | (apply linN_free; (simp only [List.getElem?_toArray, List.getElem?_cons_succ, List.getElem?_cons_zero]; rfl); (rfl); (intro w'; (first | (go_simp; done) | (go_simp; with_reducible rfl) | (go_simp; go_bits; with_reducible rfl) | (go_simp; go_bits; done))); try simp only [Act.put, List.setIfInBounds_toArray, List.set_cons_zero, List.set_cons_succ]) | (apply linN_freeSkip; (simp only [List.getElem?_toArray, List.getElem?_cons_succ, List.getElem?_cons_zero]; rfl); (rfl); try simp only [Act.put, List.setIfInBounds_toArray, List.set_cons_zero, List.set_cons_succ])); (first | (apply linN_free; (simp only [List.getElem?_toArray, List.getElem?_cons_succ, List.getElem?_cons_zero]; rfl); (rfl); (intro w'; (first | (go_simp; done) | (go_simp; with_reducible rfl) | (go_simp; go_bits; with_reducible rfl) | (go_simp; go_bits; done))); try simp only [Act.put, List.setIfInBounds_toArray, List.set_cons_zero, List.set_cons_succ]) | (apply linN_freeSkip; (simp only [List.getElem?_toArray, List.getElem?_cons_succ, List.getElem?_cons_zero]; rfl); (rfl); try simp only [Act.put, List.setIfInBounds_toArray, List.set_cons_zero, List.set_cons_succ])); (first | (apply linN_free; (simp only [List.getElem?_toArray, List.getElem?_cons_succ, List.getElem?_cons_zero]; rfl); (rfl); (intro w'; (first | (go_simp; done) | (go_simp; with_reducible rfl) | (go_simp; go_bits; with_reducible rfl) | (go_simp; go_bits; done))); try simp only [Act.put, List.setIfInBounds_toArray, List.set_cons_zero, List.set_cons_succ]) | (apply linN_freeSkip; (simp only [List.getElem?_toArray, List.getElem?_cons_succ, List.getElem?_cons_zero]; rfl); (rfl); try simp only [Act.put, List.setIfInBounds_toArray, List.set_cons_zero, List.set_cons_succ])); (first | (apply linN_free; (simp only [List.getElem?_toArray, List.getElem?_cons_succ, List.getElem?_cons_zero]; rfl); (rfl); (intro w'; (first | (go_simp; done) | (go_simp; with_reducible rfl) | (go_simp; go_bits; with_reducible rfl) | (go_simp; go_bits; done))); try simp only [Act.put, List.setIfInBounds_toArray, List.set_cons_zero, List.set_cons_succ]) | (apply linN_freeSkip; (simp only [List.getElem?_toArray, List.getElem?_cons_succ, List.getElem?_cons_zero]; rfl); (rfl); try simp only [Act.put, List.setIfInBounds_toArray, List.set_cons_zero, List.set_cons_succ])); (first | (apply linN_hot; (simp only [List.getElem?_toArray, List.getElem?_cons_succ, List.getElem?_cons_zero]; rfl); (rfl); (intro w' hb'; (try have k_k0 := kpP_cell hb' k0); (first | (go_simp; done) | (go_simp; with_reducible rfl) | (go_simp; go_bits; with_reducible rfl) | (go_simp; go_bits; done))); try simp only [Act.put, List.setIfInBounds_toArray, List.set_cons_zero, List.set_cons_succ]) | (apply linN_hotSkip; (simp only [List.getElem?_toArray, List.getElem?_cons_succ, List.getElem?_cons_zero]; rfl); (rfl); try simp only [Act.put, List.setIfInBounds_toArray, List.set_cons_zero, List.set_cons_succ])); (first | (apply linN_free; (simp only [List.getElem?_toArray, List.getElem?_cons_succ, List.getElem?_cons_zero]; rfl); (rfl); (intro w'; (first | (go_simp; done) | (go_simp; with_reducible rfl) | (go_simp; go_bits; with_reducible rfl) | (go_simp; go_bits; done))); try simp only [Act.put, List.setIfInBounds_toArray, List.set_cons_zero, List.set_cons_succ]) | (apply linN_freeSkip; (simp only [List.getElem?_toArray, List.getElem?_cons_succ, List.getElem?_cons_zero]; rfl); (rfl); try simp only [Act.put, List.setIfInBounds_toArray, List.set_cons_zero, List.set_cons_succ])); (first | (apply linN_free; (simp only [List.getElem?_toArray, List.getElem?_cons_succ, List.getElem?_cons_zero]; rfl); (rfl); (intro w'; (first | (go_simp; done) | (go_simp; with_reducible rfl) | (go_simp; go_bits; with_reducible rfl) | (go_simp; go_bits; done))); try simp only [Act.put, List.setIfInBounds_toArray, List.set_cons_zero, List.set_cons_succ]) | (apply linN_freeSkip; (simp only [List.getElem?_toArray, List.getElem?_cons_succ, List.getElem?_cons_zero]; rfl); (rfl); try simp only [Act.put, List.setIfInBounds_toArray, List.set_cons_zero, List.set_cons_succ])); (first | (apply linN_free; (simp only [List.getElem?_toArray, List.getElem?_cons_succ, List.getElem?_cons_zero]; rfl); (rfl); (intro w'; (first | (go_simp; done) | (go_simp; with_reducible rfl) | (go_simp; go_bits; with_reducible rfl) | (go_simp; go_bits; done))); try simp only [Act.put, List.setIfInBounds_toArray, List.set_cons_zero, List.set_cons_succ]) | (apply linN_freeSkip; (simp only [List.getElem?_toArray, List.getElem?_cons_succ, List.getElem?_cons_zero]; rfl); (rfl); try simp only [Act.put, List.setIfInBounds_toArray, List.set_cons_zero, List.set_cons_succ])); (first | (apply linN_free; (simp only [List.getElem?_toArray, List.getElem?_cons_succ, List.getElem?_cons_zero]; rfl); (rfl); (intro w'; (first | (go_simp; done) | (go_simp; with_reducible rfl) | (go_simp; go_bits; with_reducible rfl) | (go_simp; go_bits; done))); try simp only [Act.put, List.setIfInBounds_toArray, List.set_cons_zero, List.set_cons_succ]) | (apply linN_freeSkip; (simp only [List.getElem?_toArray, List.getElem?_cons_succ, List.getElem?_cons_zero]; rfl); (rfl); try simp only [Act.put, List.setIfInBounds_toArray, List.set_cons_zero, List.set_cons_succ])); (first | (apply linN_free; (simp only [List.getElem?_toArray, List.getElem?_cons_succ, List.getElem?_cons_zero]; rfl); (rfl); (intro w'; (first | (go_simp; done) | (go_simp; with_reducible rfl) | (go_simp; go_bits; with_reducible rfl) | (go_simp; go_bits; done))); try simp only [Act.put, List.setIfInBounds_toArray, List.set_cons_zero, List.set_cons_succ]) | (apply linN_freeSkip; (simp only [List.getElem?_toArray, List.getElem?_cons_succ, List.getElem?_cons_zero]; rfl); (rfl); try simp only [Act.put, List.setIfInBounds_toArray, List.set_cons_zero, List.set_cons_succ])); (first | (apply linN_pass (wayKpP) (wayKpP); (simp only [List.getElem?_toArray, List.getElem?_cons_succ, List.getElem?_cons_zero]; rfl); (rfl); try simp only [Act.put, List.setIfInBounds_toArray, List.set_cons_zero, List.set_cons_succ]) | (apply linN_op; (simp only [List.getElem?_toArray, List.getElem?_cons_succ, List.getElem?_cons_zero]; rfl); (rfl); intro K hK; (first | (go_simp; (first | skip))); refine hK _ _ ?_ ?_; (exact trivial); clear hK; try simp only [Act.put, List.setIfInBounds_toArray, List.set_cons_zero, List.set_cons_succ])); refine linN_end ?_)
        have h5 : BankAt (w4.setCell ⟨go, q, none⟩ (.int .u8 (y.toNat : Int))).drew gB gp g at_ l := by
          have n1 : gB ≠ go := fun e => absurd (row_typeB h4.row (e ▸ r4)) (by decide)
          have n2 : gp ≠ go := fun e => absurd (row_typeB h4.pl (e ▸ r4)) (by decide)
          exact ⟨h4.row.set_other _ _ n1, h4.pl.set_other _ _ n2⟩
        have r5 : Row (w4.setCell ⟨go, q, none⟩ (.int .u8 (y.toNat : Int))).drew go (bv (stU l m (k + 1))).toArray 5 := by
          have e := r4.set q (.int .u8 (y.toNat : Int))
          rw [List.setIfInBounds_toArray] at e
          have e2 : (bv (stU l m k)).set q (.int .u8 (y.toNat : Int)) = bv (stU l m (k + 1)) := by
            rw [← HY.out y ⟨x, HXX.out, HY2.out⟩]
            unfold bv
            rw [List.map_set]
          rw [e2] at e
          exact e
        have hb5 : Below go W (w4.setCell ⟨go, q, none⟩ (.int .u8 (y.toNat : Int))).drew := below_drew (hbb.trans ((Below.refl go w4).setCell (p := ⟨go, q, none⟩) (Nat.le_refl _) _))
        have HZ := Lib.hid (And.intro h5 (And.intro r5 hb5))
        clear h5 r5 hb5 h4 r4 hbb k0 z0 HY HXX HY2 hy1
        generalize (w4.setCell ⟨go, q, none⟩ (.int .u8 (y.toNat : Int))).drew = w5 at *
        go_wp2
        refine ⟨?rel, ?measure⟩
        case rel => exact ⟨k + 1, by omega, by go_num, HZ.out.1, HZ.out.2.1, HZ.out.2.2⟩
        case measure => simp [intOf]; omega
    · obtain rfl : k = N := by omega
      go_wp2
      go_ret
      refine ⟨_, rfl, ?_, by rw [hgo]; exact hb⟩
      rw [H0.out]
      exact row_ownK hr (stU_length _ _ _) (by omega) (by unfold maxLen; omega)
end Go.Proofs.Ytmdmhjcdaejlkaa
