/- dumbwaiterlaw6.awake. -/
import Derived.Test.YtlbpmboknmbcgaaDiskV
set_option linter.unusedVariables false
set_option linter.unusedSimpArgs false
namespace Go.Proofs.Ytlbpmboknmbcgaa
open Go.RowKit

/-- bytes that were just built -/
theorem bytes_lit (W : World) (base : Nat) (xs : List UInt8) (n : Nat) (hn : n = xs.length) (hl : n ≤ maxLen) (cs : Array Value) (hcs : cs = (bv xs).toArray) : BytesAt (W.alloc (.cells cs 5)) base (.slice (some ⟨W.heap.size, 0, none⟩) n n) xs := by
  subst hn hcs
  exact BytesAt.of_own (row_own (B := 0) (Row.new W _ 5) rfl (Nat.zero_le _) hl)
theorem flush_own (W : World) (base g b n : Nat) (D : Dk) (h : In W base b D n) (hr : Row W g #[.pointer (some ⟨b, 0, none⟩)] 23) (hg : D.goes = true) :
    Calls Try.prog 61 #[.pointer (some ⟨g, 0, none⟩)] W fun e w' => e = gonePanic ∧ In w' base b D.dead n ∧ DR dTy base W w' := by
  have c0 := hr.cell 0 rfl
  go_enter Try.func61, Try.ntmps61
  go_wp2_with fail
  refine (i_flushNo h hg).mono ?_
  rintro e w' ⟨rfl, h1, h2⟩
  exact ⟨rfl, rfl, h1, h2⟩
theorem none_ok (W : World) : Calls Try.prog 62 #[] W fun e w' => e = .returned (.tuple #[]) ∧ w' = W := by
  go_enter Try.func62, Try.ntmps62
  go_wp2
  exact bodyPost_end (by simp [results, Try.results62]) rfl ⟨rfl, rfl⟩

theorem conv_own {w : World} {B : Nat} {v : Value} {xs : List UInt8} (h : OwnB w B 5 v xs) : (convert 22 9 v).run Try.prog w = .ok (.string (strB xs)) w := by
  obtain ⟨A, c, rfl, _, _, hr⟩ := h.form
  exact run_str (P := Try.prog) w 22 5 Try.underlying22 Try.underlying5 A _ c _ hr 9 Try.underlying9
theorem nothing_try (W : World) (base b n : Nat) (D : Dk) (h : In W base b D n) : Calls Try.prog 25 #[.func (Fn.func 62) #[] #[]] W fun e w' => e = .returned (.bool true) ∧ In w' base b D n ∧ Below W.heap.size W w' := by
  have hb0 := below_alloc (Below.refl W.heap.size W) (.cells #[.bool false] 4)
  refine (c_tryOk W (fun w => w = W.alloc (.cells #[.bool false] 4)) (fun _ => by kernel_rfl) ((none_ok _).mono ?_)).mono ?_
  · rintro e w' ⟨rfl, rfl⟩
    exact ⟨rfl, Row.new _ _ _, rfl⟩
  · rintro e w' ⟨rfl, w1, rfl, hr, rfl⟩
    have hb := hb0.trans ((upd_cell (j := 0) hr (.bool true)).below (Nat.le_refl _))
    exact ⟨rfl, h.below hb, hb⟩
set_option maxHeartbeats 8000000 in
set_option maxRecDepth 100000 in
theorem c_awake6 (W : World) : Calls Try.prog 18 #[] W fun e w' => e = .returned (.bool true) ∧ Below W.heap.size W w' := by
  have hmf : ∀ (fn : Fn) (first cap : Array Value) (w : World), (Instr.makeFunc fn first cap).run Try.prog w = .ok (.func fn first cap) w := fun _ _ _ _ => rfl
  go_enter Try.func18, Try.ntmps18
  go_wp2_with fail
  refine (i_new 3 2 W (by decide) (by decide)).mono ?_
  rintro e w1 ⟨b, rfl, hI, hB⟩
  go_wp2_with fail
  replace hI := hI.alloc (.cells #[.pointer (some ⟨b, 0, none⟩)] 23)
  replace hB := below_alloc hB (.cells #[.pointer (some ⟨b, 0, none⟩)] 23)
  have hR := Row.new w1 #[.pointer (some ⟨b, 0, none⟩)] 23
  have hs2 : (w1.alloc (.cells #[.pointer (some ⟨b, 0, none⟩)] 23)).heap.size = w1.heap.size + 1 := by simp
  generalize hgv : w1.heap.size = g at *
  generalize (w1.alloc (.cells #[.pointer (some ⟨b, 0, none⟩)] 23)) = w2 at *
  clear hgv
  have hv := bytes_lit w2 W.heap.size [7, 8, 9] 3 rfl (by decide) #[.int .u8 7, .int .u8 8, .int .u8 9] (by simp [bv])
  rw [hs2] at hv
  replace hI := hI.alloc (.cells #[.int .u8 7, .int .u8 8, .int .u8 9] 5)
  have hg : (dkNew 3 2).goes = false := by decide
  refine (i_write hI (Nat.zero_le _) hg 1 _ [7, 8, 9] (by decide) hv).mono ?_
  rintro e w3 ⟨rfl, hI3, hd3⟩
  have hR3 := (hR.alloc _).dr hd3 (by decide)
  have hB3 := (below_alloc hB _).trans hd3.below
  have c1 := hR3.cell 0 rfl
  go_wp2_with fail
  have hg : ((dkNew 3 2).write 1 [7, 8, 9]).goes = false := by decide
  refine (i_read hI3 (by omega) hg 1 (by decide)).mono ?_
  rintro e w4 ⟨va, rfl, ha, hI4, hd4⟩
  have hR4 := hR3.dr hd4 (by decide)
  have hB4 := hB3.trans hd4.below
  clear c1
  have c1 := hR4.cell 0 rfl
  go_wp2_with fail
  have hv := bytes_lit w4 W.heap.size [1] 1 rfl (by decide) #[.int .u8 1] (by simp [bv])
  replace hI4 := hI4.alloc (.cells #[.int .u8 1] 5)
  have hR5 := hR4.alloc (.cells #[.int .u8 1] 5)
  have ha5 := ha.below (below_alloc (Below.refl _ _) (.cells #[.int .u8 1] 5))
  replace hB4 := below_alloc hB4 (.cells #[.int .u8 1] 5)
  generalize hD1 : ((dkNew 3 2).write 1 [7, 8, 9]).read 1 = D1 at *
  have hg1 : D1.goes = false := by subst hD1; decide
  refine (i_write hI4 (by omega) hg1 2 _ [1] (by decide) hv).mono ?_
  rintro e w5 ⟨rfl, hI5, hd5⟩
  replace hR5 := hR5.dr hd5 (by decide)
  replace ha5 := ha5.dr hd5 (by decide)
  have hB5 := hB4.trans hd5.below
  clear c1 hd3 hd4 hd5 hI3 hI4 hB3 hB4 hR3 hR4 hI hR hB hv ha
  have c1 := hR5.cell 0 rfl
  go_wp2_with fail
  refine (i_cut hI5 0 (by decide)).mono ?_
  rintro e w6 ⟨rfl, hI6, hd6⟩
  have hR6 := hR5.dr hd6 (by decide)
  have ha6 := ha5.dr hd6 (by decide)
  have hB6 := hB5.trans hd6.below
  clear c1 hd6 hI5 hB5 hR5 ha5
  have c1 := hR6.cell 0 rfl
  go_wp2_with fail
  generalize hD2 : (D1.write 2 [1]).cut 0 = D2 at *
  have hg2 : D2.goes = true := by subst hD2 hD1; decide
  refine (i_tryGone (fun _ => by kernel_rfl) hI6 fun W0 hb0 hi0 => flush_own W0 W.heap.size g b _ D2 hi0 (hR6.below hb0 hR6.lt) hg2).mono ?_
  rintro e w7 ⟨rfl, hI7, hd7⟩
  have hR7 := hR6.dr hd7 (by decide)
  have ha7 := ha6.dr hd7 (by decide)
  have hB7 := hB6.trans hd7.below
  clear c1 hd7 hI6 hB6 hR6 ha6
  have c1 := hR7.cell 0 rfl
  go_wp2_with fail
  have hch : Rd (w7.alloc (.cells #[.int .i64 2, .int .i64 1] 3)) (some ⟨w7.heap.size, 0, none⟩) 2 (iv [2, 1]) := rd_lit w7 (iv [2, 1]) 3 (0, 0) 2 rfl
  have hcb : ∀ ad, some (⟨w7.heap.size, 0, none⟩ : Addr) = some ad → 0 < 2 → ad.block < W.heap.size ∨ ∃ cs fr, (w7.alloc (.cells #[.int .i64 2, .int .i64 1] 3)).heap[ad.block]? = some (.cells cs 3 fr) := by
    rintro ad e -
    cases e
    exact .inr ⟨_, _, Row.new _ _ _⟩
  replace hI7 := hI7.alloc (.cells #[.int .i64 2, .int .i64 1] 3)
  have hR8 := hR7.alloc (.cells #[.int .i64 2, .int .i64 1] 3)
  have ha8 := ha7.below (below_alloc (Below.refl _ _) (.cells #[.int .i64 2, .int .i64 1] 3))
  replace hB7 := below_alloc hB7 (.cells #[.int .i64 2, .int .i64 1] 3)
  refine (i_crash hI7 (by omega) _ _ _ [2, 1] hch (by decide) (by decide) hcb).mono ?_
  rintro e w8 ⟨rfl, hI8, hd8⟩
  replace hR8 := hR8.dr hd8 (by decide)
  replace ha8 := ha8.dr hd8 (by decide)
  have hB8 := hB7.trans hd8.below
  clear c1 hd8 hI7 hB7 hR7 ha7 hch hcb
  have c1 := hR8.cell 0 rfl
  go_wp2_with fail
  generalize hD3 : D2.dead.crash [2, 1] = D3 at *
  have hg3 : D3.goes = false := by subst hD3 hD2 hD1; decide
  refine (i_read hI8 (by omega) hg3 1 (by decide)).mono ?_
  rintro e w9 ⟨vb, rfl, hb9, hI9, hd9⟩
  have hR9 := hR8.dr hd9 (by decide)
  have ha9 := ha8.dr hd9 (by decide)
  have hB9 := hB8.trans hd9.below
  clear c1 hd9 hI8 hB8 hR8 ha8
  have c1 := hR9.cell 0 rfl
  go_wp2_with fail
  refine (i_trace hI9 (by omega)).mono ?_
  rintro e w10 ⟨vt, rfl, ht, hI10, hb10⟩
  have hR10 := hR9.below hb10 hR9.lt
  have ha10 := ha9.below hb10
  have hb10' := hb9.below hb10
  have hB10 := below_two hB9 hb10
  have e1 : ((dkNew 3 2).write 1 [7, 8, 9]).at_ ((dkNew 3 2).write 1 [7, 8, 9]).now 1 = [7, 8] := by decide
  have e2 : D3.at_ D3.now 1 = [162, 173] := by subst hD3 hD2 hD1; decide
  have e3 : (D3.read 1).at_ (D3.read 1).stable 2 = [0, 0] := by subst hD3 hD2 hD1; decide
  have e4 : (D3.read 1).trace.length = 5 := by subst hD3 hD2 hD1; rfl
  have e5 : ∃ x, (D3.read 1).trace[3]? = some x ∧ x.kind = 4 := by subst hD3 hD2 hD1; exact ⟨_, rfl, rfl⟩
  have e6 : ∃ x, (D3.read 1).trace[0]? = some x ∧ x.body = [7, 8] := by subst hD3 hD2 hD1; exact ⟨_, rfl, by decide⟩
  rw [e1] at ha10
  rw [e2] at hb10'
  clear c1 hI9 hB9 hR9 ha9 hb9 e1 e2 hD1 hD2 hD3 hg1 hg2 hg3 hg
  obtain ⟨x3, h3, k3⟩ := e5
  obtain ⟨x0, h0, k0⟩ := e6
  obtain ⟨g2, cap, A3, n3, c3, rfl, l3, b3, f3⟩ := ht.elem h3
  obtain ⟨g2', cap', A0, n0, c0, ev, l0, b0, f0⟩ := ht.elem h0
  rw [e4] at ev ⊢
  simp only [Value.slice.injEq, Option.some.injEq, Addr.mk.injEq] at ev
  obtain ⟨⟨rfl, -, -⟩, -, rfl⟩ := ev
  have q3 := f3 0 (.int .i64 4) (by unfold evC; rw [k3]; rfl)
  have q0 := f0 14 _ (by have := evC_14 x0.kind x0.at_ x0.head (.slice A0 n0 c0) l0; rwa [List.getElem?_toArray] at this)
  rw [k0] at b0
  obtain ⟨A0', c0', ev0, lc1, lc2, rd0, -⟩ := b0
  simp only [Value.slice.injEq] at ev0
  obtain ⟨rfl, rfl, rfl⟩ := ev0
  obtain ⟨ad0, rfl, qb⟩ := rd0.at_ (j := 1) (by decide)
  have s1 : (convert 22 9 va).run Try.prog w10 = .ok (.string ⟨#[7, 8]⟩) w10 := conv_own ha10
  have s2 : (convert 22 9 vb).run Try.prog w10 = .ok (.string ⟨#[162, 173]⟩) w10 := conv_own hb10'
  have lt2 : g2 < w10.heap.size := World.block_lt_of_cell? w10 _ q3
  have lt0 : ad0.block < w10.heap.size := by have := World.block_lt_of_cell? w10 _ qb; rwa [ad_block] at this
  have q1 := hR10.cell 0 rfl
  rw [ad_none] at q3 q0
  replace q3 : w10.cell? ⟨g2, 45, none⟩ = some (.int .i64 4) := q3
  replace q0 : w10.cell? ⟨g2, 14, none⟩ = some (.slice (some ad0) 2 c0) := q0
  replace qb : w10.cell? (ad0.add 1) = some (.int .u8 8) := qb
  clear ht f3 f0 h3 h0 b3 rd0
  go_wp2_with fail
  refine (i_stable hI10 (by omega) 2 (by decide)).mono ?_
  rintro e w11 ⟨vs, rfl, hs11, hI11, hb11⟩
  rw [e3] at hs11
  have s3 : (convert 22 9 vs).run Try.prog w11 = .ok (.string ⟨#[0, 0]⟩) w11 := conv_own hs11
  go_wp2_with fail
  refine (nothing_try _ _ _ _ _ hI11).mono ?_
  rintro e w12 ⟨rfl, hI12, hb12⟩
  have hb2 := below_two hb11 hb12
  have p3 := (hb2.cell (p := ⟨g2, 45, none⟩) lt2).trans q3
  have p0 := (hb2.cell (p := ⟨g2, 14, none⟩) lt2).trans q0
  have pb := (hb2.cell (p := ad0.add 1) (by rw [ad_block]; exact lt0)).trans qb
  replace pb : w12.cell? ⟨ad0.block, ad0.off + 1, none⟩ = some (.int .u8 8) := pb
  have hB12 : Below W.heap.size W w12 := below_two hB10 hb2
  clear s1 s2 s3 q1 q3 q0 qb
  go_wp2
  exact ⟨rfl, .bool true, by simp [results, Try.results18], rfl, hB12⟩
end Go.Proofs.Ytlbpmboknmbcgaa
