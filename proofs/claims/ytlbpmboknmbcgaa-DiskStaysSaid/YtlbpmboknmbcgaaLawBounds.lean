/- The walk of DiskBounds. -/
import Derived.Test.YtlbpmboknmbcgaaAwk6
import Derived.Test.YtlbpmboknmbcgaaMask
import Derived.Test.YtlbpmboknmbcgaaRow
set_option linter.unusedVariables false
set_option linter.unusedSimpArgs false
namespace Go.Proofs.Ytlbpmboknmbcgaa
open Go.RowKit

theorem c_sameT (W : World) (B1 B2 : Nat) (v u : Value) (xs ys : List UInt8) (h1 : OwnB W B1 5 v xs) (h2 : OwnB W B2 5 u ys) (e : xs = ys) :
    Calls Try.prog 37 #[v, u] W fun e w' => e = .returned (.bool true) ∧ W = w' := by
  subst e
  have s1 := conv_own h1
  have s2 := conv_own h2
  go_enter Try.func37, Try.ntmps37
  go_wp2
  exact ⟨rfl, .bool true, by simp [results, Try.results37], rfl, rfl⟩
theorem run_makeB (W : World) (n : Nat) (hn : n ≤ 140737488355328) : ∃ W', (Instr.makeSlice 22 (.int .i64 (n : Int)) (.int .i64 (n : Int))).run Try.prog W = .ok (.slice (some ⟨W.heap.size, 0, none⟩) n n) W' ∧ OwnB W' W.heap.size 5 (.slice (some ⟨W.heap.size, 0, none⟩) n n) (List.replicate n 0) ∧ Below W.heap.size W W' := by
  obtain ⟨i, h1, h2, h3, h4⟩ := info_parts8
  obtain ⟨W', hrun, ho, hgr⟩ := run_make_full (P := Try.prog) W W.heap.size 22 5 i (.int .u8 0) 1 Try.underlying22 h1 h2 h3 .i64 .i64 n (by rw [h4]; omega) (by unfold maxLen; omega) (Nat.le_refl _)
  refine ⟨W', hrun, ?_, ⟨hgr.os, hgr.tape, hgr.output, hgr.size, fun k hk => hgr.block k hk (by simp)⟩⟩
  unfold OwnB
  rw [List.length_replicate, bv_rep]
  have e : (madeCells (Value.int .u8 0).cells (n * 1)).toList = List.replicate n (.int .u8 0) := by
    rw [Nat.mul_one]; exact toList_madeCells_one _ _
  rwa [e] at ho
theorem wf_i64 {x : Int} (h1 : -9223372036854775808 ≤ x) (h2 : x ≤ 9223372036854775807) : (Lit.int .i64 x).wf = true := by
  simp [Lit.wf, IntKind.min, IntKind.max, IntKind.signed, IntKind.bits]; omega
/-- no stop is set, and the power is there -/
structure Free (D : Dk) : Prop where
  off : D.off = false
  af : D.after = -1
theorem Free.goes {D : Dk} (h : Free D) : D.goes = false := by unfold Dk.goes; rw [h.off, h.af]; rfl
theorem Free.step {D : Dk} (h : Free D) : Free D.step := ⟨rfl, by show (if 0 < D.after then D.after - 1 else D.after) = -1; rw [h.af]; rfl⟩
theorem Free.write {D : Dk} (h : Free D) (a : Int) (xs : List UInt8) : Free (D.write a xs) := by
  unfold Dk.write
  split
  · exact ⟨rfl, h.step.af⟩
  · exact ⟨rfl, h.step.af⟩
theorem Free.read {D : Dk} (h : Free D) (a : Int) : Free (D.read a) := ⟨rfl, h.step.af⟩
theorem Free.flush {D : Dk} (h : Free D) : Free D.flush := ⟨rfl, h.step.af⟩
theorem Free.crash (D : Dk) (ch : List Int) : Free (D.crash ch) := ⟨rfl, rfl⟩
theorem fitL_nil (n : Int) : fitL n [] = List.replicate n.toNat 0 := by simp [fitL, copyL]
theorem write_blocks (D : Dk) (a : Int) (xs : List UInt8) : (D.write a xs).blocks = D.blocks := by unfold Dk.write; split <;> rfl
theorem write_size (D : Dk) (a : Int) (xs : List UInt8) : (D.write a xs).size = D.size := by unfold Dk.write; split <;> rfl
theorem write_stable (D : Dk) (a : Int) (xs : List UInt8) : (D.write a xs).stable = D.stable := by unfold Dk.write; split <;> rfl
theorem write_has (D : Dk) (a i : Int) (xs : List UInt8) : (D.write a xs).has i = D.has i := by unfold Dk.has; rw [write_blocks]
theorem write_trace (D : Dk) (a : Int) (xs : List UInt8) : (D.write a xs).trace = D.trace ++ [⟨2, a, headL (fitL D.size xs), fitL D.size xs⟩] := by unfold Dk.write; split <;> rfl
theorem at_not {D : Dk} {a : Int} (h : D.has a = false) (m : Int → List UInt8) : D.at_ m a = [] := by unfold Dk.at_; rw [h]; rfl
theorem at_yes {D : Dk} {a : Int} (h : D.has a = true) (m : Int → List UInt8) : D.at_ m a = fitL D.size (m a) := by unfold Dk.at_; rw [h]; rfl
theorem write_now {D : Dk} {a : Int} (h : D.has a = true) (xs : List UInt8) : (D.write a xs).now = fun j => if j = a then fitL D.size xs else D.now j := by unfold Dk.write; rw [if_pos h]
theorem write_loose {D : Dk} {a : Int} (h : D.has a = true) (xs : List UInt8) : (D.write a xs).loose = D.loose ++ [(a, fitL D.size xs)] := by unfold Dk.write; rw [if_pos h]
theorem has_false {D : Dk} {a : Int} (h : a < 0 ∨ D.blocks ≤ a) : D.has a = false := by unfold Dk.has; simp; omega
theorem has_true {D : Dk} {a : Int} (h : 0 ≤ a) (h2 : a < D.blocks) : D.has a = true := by unfold Dk.has; simp; omega
set_option maxHeartbeats 4000000 in
set_option maxRecDepth 100000 in
theorem w_bounds0 (a0 a1 a3 : Int) (A : Option Addr) (l cap : Nat) (xs : List UInt8) (w : World) (k0 k1 k3 : Nat) (h0 : bits .and .i64 a0 31 = (k0 : Int)) (h1 : bits .and .i64 a1 63 = (k1 : Int)) (h3 : bits .and .i64 a3 63 = (k3 : Int)) (b0 : k0 ≤ 31) (b1 : k1 ≤ 63) (b3 : k3 ≤ 63)
    (hx : BytesAt w w.heap.size (.slice A l cap) xs) (hl : xs.length = l) :
    Calls Try.prog 8 #[.int .i64 a0, .int .i64 a1, .slice A l cap, .int .i64 a3] w fun e w' => e = .returned (.bool true) ∧ Below w.heap.size w w' := by
  by_cases hbig : 2000 < l
  · go_enter Try.func8, Try.ntmps8
    go_wp2_with fail
    refine (c_awake6 w).mono ?_
    rintro e w1 ⟨rfl, hb⟩
    go_wp2
    exact ⟨rfl, .bool true, by simp [results, Try.results8], rfl, hb⟩
  go_enter Try.func8, Try.ntmps8
  go_wp2_with fail
  have hB : ((dkNew ((k0 : Int) - 4) ((k1 : Int) - 4)).blocks : Int) = ((k0 - 4 : Nat) : Int) := by show min (max _ 0) 100000 = _; omega
  have hS : ((dkNew ((k0 : Int) - 4) ((k1 : Int) - 4)).size : Int) = ((k1 - 4 : Nat) : Int) := by show min (max _ 0) 60000 = _; omega
  refine (i_new ((k0 : Int) - 4) ((k1 : Int) - 4) w (by simp [Lit.wf, IntKind.min, IntKind.max, IntKind.signed, IntKind.bits]; omega) (by simp [Lit.wf, IntKind.min, IntKind.max, IntKind.signed, IntKind.bits]; omega)).mono ?_
  rintro e w1 ⟨b, rfl, hI, hb1⟩
  have hg0 : (dkNew ((k0 : Int) - 4) ((k1 : Int) - 4)).goes = false := rfl
  have hn0 : (dkNew ((k0 : Int) - 4) ((k1 : Int) - 4)).now = fun _ => [] := rfl
  have hst0 : (dkNew ((k0 : Int) - 4) ((k1 : Int) - 4)).stable = fun _ => [] := rfl
  have ht0 : (dkNew ((k0 : Int) - 4) ((k1 : Int) - 4)).trace = [] := rfl
  have hlo0 : (dkNew ((k0 : Int) - 4) ((k1 : Int) - 4)).loose = [] := rfl
  have ha0 : (dkNew ((k0 : Int) - 4) ((k1 : Int) - 4)).after = -1 := rfl
  have hq0 : (dkNew ((k0 : Int) - 4) ((k1 : Int) - 4)).off = false := rfl
  generalize dkNew ((k0 : Int) - 4) ((k1 : Int) - 4) = D at *
  have cb := c_blocks w1 w.heap.size b D hI.dk
  have cs := c_size w1 w.heap.size b D hI.dk
  rw [hB] at cb
  rw [hS] at cs
  have f0 : (((k0 - 4 : Nat) : Int) != if (k0 : Int) - 4 < 0 then 0 else (k0 : Int) - 4) = false := by split <;> simp <;> omega
  have f1 : (((k1 - 4 : Nat) : Int) != if (k1 : Int) - 4 < 0 then 0 else (k1 : Int) - 4) = false := by split <;> simp <;> omega
  go_wp2_with (first | (go_at_call 35; refine cb.mono ?_; rintro e w' ⟨rfl, rfl⟩) | (go_at_call 36; refine cs.mono ?_; rintro e w' ⟨rfl, rfl⟩))
  all_goals
    have hF : Free D := ⟨hq0, ha0⟩
    have hx1 : BytesAt w1 w.heap.size (.slice A l cap) xs := hx.keep (DR.of_below (S := []) hb1 (Nat.le_refl _)) (by simp)
    have hwf := wf_i64 (x := (k3 : Int) - 8) (by omega) (by omega)
    refine (i_write hI (by omega) hF.goes ((k3 : Int) - 8) _ xs hwf hx1).mono ?_
    rintro e w2 ⟨rfl, hI2, hd2⟩
    go_wp2_with fail
    refine (i_read hI2 (by omega) (hF.write _ _).goes ((k3 : Int) - 8) hwf).mono ?_
    rintro e w3 ⟨vx, rfl, ho3, hI3, hd3⟩
    have hb3 := (hb1.trans hd2.below).trans hd3.below
    have cb3 := c_blocks w3 w.heap.size b _ hI3.dk
    rw [show ((D.write ((k3 : Int) - 8) xs).read ((k3 : Int) - 8)).blocks = ((k0 - 4 : Nat) : Int) from (write_blocks _ _ _).trans hB] at cb3
    clear cb cs hd2 hd3 hI2 hI hx1
    by_cases hneg : (k3 : Int) - 8 < 0 ∨ ((k0 - 4 : Nat) : Int) ≤ (k3 : Int) - 8
    · have hh : (D.write ((k3 : Int) - 8) xs).has ((k3 : Int) - 8) = false := has_false (by rw [write_blocks, hB]; exact hneg)
      rw [at_not hh] at ho3
      obtain ⟨A3, c3, rfl, -, -, -⟩ := ho3.form
      go_wp2_with (first | (go_at_call 35; refine cb3.mono ?_; rintro e w' ⟨rfl, rfl⟩))
      all_goals
        refine (i_stable hI3 (by omega) ((k3 : Int) - 8) hwf).mono ?_
        rintro e w4 ⟨vs, rfl, ho4, hI4, hb4⟩
        rw [at_not (show ((D.write ((k3 : Int) - 8) xs).read ((k3 : Int) - 8)).has ((k3 : Int) - 8) = false from hh)] at ho4
        obtain ⟨A4, c4, rfl, -, -, -⟩ := ho4.form
        go_wp2_with fail
        refine (i_trace hI4 (by omega)).mono ?_
        rintro e w5 ⟨vt, rfl, ht5, hI5, hb5⟩
        obtain ⟨ts, -, -, ht6⟩ := ht5
        obtain ⟨A5, c5, rfl, -, -⟩ := own_form ht6
        have e5 : ((D.write ((k3 : Int) - 8) xs).read ((k3 : Int) - 8)).trace.length = 2 := by
          show ((D.write ((k3 : Int) - 8) xs).trace ++ [_]).length = 2
          rw [write_trace, ht0]
          rfl
        rw [e5] at *
        have hb6 := below_two (below_two hb3 hb4) hb5
        go_wp2_with fail
        refine (c_awake6 _).mono ?_
        rintro e w6 ⟨rfl, hb7⟩
        have hb8 := below_two hb6 hb7
        clear ht6
        go_wp2
        exact ⟨rfl, .bool true, by simp [results, Try.results8], rfl, hb8⟩
    · rcases Int.lt_or_le ((k0 : Int) - 4) 0 with hk0 | hk0
      all_goals try (exfalso; omega)
      all_goals
        have hh : (D.write ((k3 : Int) - 8) xs).has ((k3 : Int) - 8) = true := has_true (by omega) (by rw [write_blocks, hB]; omega)
        rw [at_yes hh, write_now (by rwa [write_has] at hh), write_size] at ho3
        simp only [if_true, fitL_fitL] at ho3
        have hszn : D.size.toNat = k1 - 4 := by rw [hS]; rfl
        obtain ⟨A3, c3, ev, lc3, -, -⟩ := ho3.form
        rw [fitL_length, hszn] at ev
        subst ev
        have p1 : ¬ ((k3 : Int) - 8 < 0) := by omega
        have p2 : ¬ (((k0 - 4 : Nat) : Int) ≤ (k3 : Int) - 8) := by omega
        have cs3 := c_size w3 w.heap.size b _ hI3.dk
        rw [show ((D.write ((k3 : Int) - 8) xs).read ((k3 : Int) - 8)).size = ((k1 - 4 : Nat) : Int) from (write_size _ _ _).trans hS] at cs3
        have hk0 : 0 ≤ (k0 : Int) - 4 := by omega
        have hk1 : k1 - 4 ≤ 100 := by omega
        have hx3 : BytesAt w3 w.heap.size (.slice A l cap) xs := hx.keep (DR.of_below (S := []) hb3 (Nat.le_refl _)) (by simp)
        have hr3 : RdB w3 A xs.length xs := by
          obtain ⟨A', c', e, _, _, hr, _⟩ := hx3
          simp only [Value.slice.injEq] at e
          obtain ⟨rfl, -, -⟩ := e
          exact hr
        generalize hsz : k1 - 4 = sz at *
        subst hl
        go_upto_region 13 with (first | (go_at_call 35; refine cb3.mono ?_; rintro e w' ⟨rfl, rfl⟩) | (go_at_call 36; refine cs3.mono ?_; rintro e w' ⟨rfl, rfl⟩) | (at_make; refine wpl_makeB (n := sz) rfl rfl rfl rfl (by omega) ?_; intro w4 ho4 hB4 hs4))
        have hrow4 : Row w4 w3.heap.size (bv (List.replicate sz 0)).toArray 5 := own_row ho4
        have hr4 := hr3.below hB4 (Nat.le_refl _)
        go_upto_region 14 with (refine wpl_copyB (xs := List.replicate sz 0) (ys := xs) (cap := sz) rfl rfl (by rw [List.length_replicate]; rfl) rfl hrow4 hr4 ?_; intro w5 y5 hu5)
        have hB5 : Below w3.heap.size w3 w5 := hB4.trans (hu5.below (Nat.le_refl _))
        have hI5 := hI3.below hB5
        have ho5 := ho3.below hB5
        have hwant : OwnB w5 w3.heap.size 5 (.slice (some ⟨w3.heap.size, 0, none⟩) sz sz) (fitL D.size xs) := row_own (by have := hu5.row; unfold fitL; rw [hszn]; exact this) (by rw [fitL_length, hszn]) (Nat.le_refl _) (by unfold maxLen; omega)
        have hb5 := below_two hb3 hB5
        clear hu5 ho4 hrow4 hr4 hB4 hs4 ho3 hI3 cb3 cs3 hx3 hr3
        go_wp2_with fail
        have hD3 : ((D.write ((k3 : Int) - 8) xs).read ((k3 : Int) - 8)).has ((k3 : Int) - 8) = true := hh
        have hsz3 : ((D.write ((k3 : Int) - 8) xs).read ((k3 : Int) - 8)).size = D.size := write_size _ _ _
        have hst3 : ((D.write ((k3 : Int) - 8) xs).read ((k3 : Int) - 8)).stable = fun _ => [] := (write_stable _ _ _).trans hst0
        have hlo3 : ((D.write ((k3 : Int) - 8) xs).read ((k3 : Int) - 8)).loose = [((k3 : Int) - 8, fitL D.size xs)] := (write_loose (by rwa [write_has] at hh) xs).trans (by rw [hlo0]; rfl)
        have hF3 : Free ((D.write ((k3 : Int) - 8) xs).read ((k3 : Int) - 8)) := (hF.write _ _).read _
        have htr3 : ((D.write ((k3 : Int) - 8) xs).read ((k3 : Int) - 8)).trace.length = 2 := by
          show ((D.write ((k3 : Int) - 8) xs).trace ++ [_]).length = 2
          rw [write_trace, ht0]
          rfl
        generalize (D.write ((k3 : Int) - 8) xs).read ((k3 : Int) - 8) = D3 at *
        have hlen : (fitL D.size xs).length = sz := by rw [fitL_length, hszn]
        generalize hfy : fitL D.size xs = ys at *
        refine (i_stable hI5 (by omega) ((k3 : Int) - 8) hwf).mono ?_
        rintro e w6 ⟨vy, rfl, hoy, hI6, hb6⟩
        rw [at_yes hD3, hst3, hsz3, fitL_nil, hszn] at hoy
        have ho6 := ho5.below hb6
        have hw6 := hwant.below hb6
        go_wp2_with fail
        refine (i_flush hI6 (by omega) hF3.goes).mono ?_
        rintro e w7 ⟨rfl, hI7, hd7⟩
        have ho7 := ho6.dr hd7 (by decide)
        have hw7 := hw6.dr hd7 (by decide)
        have hoy7 := hoy.dr hd7 (by decide)
        have hb7 := (below_two hb5 hb6).trans hd7.below
        have cs7 := c_size w7 w.heap.size b _ hI7.dk
        rw [show D3.flush.size = (sz : Int) from hsz3.trans hS] at cs7
        clear ho6 hw6 hoy ho5 hwant hI6 hI5 hb6 hB5 hd7
        go_wp2_with fail
        refine (c_sameT w7 _ _ _ _ _ _ ho7 hw7 rfl).mono ?_
        rintro e w' ⟨rfl, rfl⟩
        obtain ⟨w8, hrun8, ho8, hB8⟩ := run_makeB w7 sz (by omega)
        have hoy8 := hoy7.below hB8
        have hw8 := hw7.below hB8
        have hI8 := hI7.below hB8
        have hb8 := below_two hb7 hB8
        have bc := bcell hB8
        go_wp2_with (first | (go_at_call 36; refine cs7.mono ?_; rintro e w' ⟨rfl, rfl⟩))
        refine (c_sameT w8 _ _ _ _ _ _ hoy8 ho8 rfl).mono ?_
        rintro e w' ⟨rfl, rfl⟩
        go_wp2_with fail
        refine (i_stable hI8 (by omega) ((k3 : Int) - 8) hwf).mono ?_
        rintro e w9 ⟨vz, rfl, hoz, hI9, hb9⟩
        rw [at_yes (show D3.flush.has ((k3 : Int) - 8) = true from hD3), show D3.flush.stable = layL D3.stable D3.loose from rfl, hlo3, show D3.flush.size = D.size from hsz3] at hoz
        simp only [layL, if_true] at hoz
        rw [← hfy, fitL_fitL, hfy] at hoz
        have hw9 := hw8.below hb9
        go_wp2_with fail
        refine (c_sameT w9 _ _ _ _ _ _ hoz hw9 rfl).mono ?_
        rintro e w' ⟨rfl, rfl⟩
        go_wp2_with fail
        refine (i_trace hI9 (by omega)).mono ?_
        rintro e w10 ⟨vt, rfl, ht10, hI10, hb10⟩
        obtain ⟨ts, -, -, ht11⟩ := ht10
        obtain ⟨A5, c5, rfl, -, -⟩ := own_form ht11
        have e5 : D3.flush.trace.length = 3 := by
          show (D3.trace ++ [_]).length = 3
          rw [List.length_append, htr3]
          rfl
        rw [e5] at *
        have hb11 := below_two (below_two hb8 hb9) hb10
        go_wp2_with fail
        refine (c_awake6 _).mono ?_
        rintro e w12 ⟨rfl, hb12⟩
        have hb13 := below_two hb11 hb12
        clear ht11
        go_wp2
        exact ⟨rfl, .bool true, by simp [results, Try.results8], rfl, hb13⟩
theorem w_DiskBounds (a0 a1 : Int) (a2 : Option Addr) (len2 cap2 : Nat) (z2 : List Int) (a3 : Int) (w : World) (w0 : (Lit.int .i64 a0).wf = true) (w1 : (Lit.int .i64 a1).wf = true) (w2 : IsRow .u8 w a2 len2 cap2 z2) (w3 : (Lit.int .i64 a3).wf = true) :
    Calls Try.prog 8 #[.int .i64 a0, .int .i64 a1, .slice a2 len2 cap2, .int .i64 a3] w fun e w' => e = .returned (.bool true) ∧ Below w.heap.size w w' := by
  have hcap : len2 ≤ cap2 ∧ cap2 ≤ maxLen := by
    rcases w2 with ⟨_, rfl, rfl, _⟩ | ⟨x, _, h1, h2, _⟩
    · exact ⟨Nat.le_refl _, Nat.zero_le _⟩
    · exact ⟨h1, h2⟩
  obtain ⟨xs, hR, hm⟩ := row_bytes w2
  have hl := RdB.len hR
  have e0 := m31 a0
  have e1 := m63 a1
  have e3 := m63 a3
  rw [show a0 % 32 = ((a0 % 32).toNat : Int) by omega] at e0
  rw [show a1 % 64 = ((a1 % 64).toNat : Int) by omega] at e1
  rw [show a3 % 64 = ((a3 % 64).toNat : Int) by omega] at e3
  refine w_bounds0 a0 a1 a3 a2 len2 cap2 xs w _ _ _ e0 e1 e3 (by omega) (by omega) (by omega) ?_ hl
  subst hl
  exact ⟨a2, cap2, rfl, hcap.1, hcap.2, hR, fun ad e h0 => .inl (Rd.block_lt (e ▸ hR) h0)⟩
end Go.Proofs.Ytlbpmboknmbcgaa
