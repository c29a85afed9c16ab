/- The walk of ConfHolds. -/
import Derived.Test.YtldeohbfhigagaaHold
import Derived.Test.YtldeohbfhigagaaLawParts
set_option linter.unusedVariables false
set_option linter.unusedSimpArgs false
namespace Go.Proofs.Ytldeohbfhigagaa
open Go.RowKit Flo

theorem fill_w (q : Nat) : fillF q ≤ 4607182418800017408 := by unfold fillF; split <;> (try split) <;> (try split) <;> decide
set_option maxHeartbeats 4000000 in
set_option maxRecDepth 100000 in
theorem w_holds0 (a : Cfg) (w : World) :
    Calls Try.prog 12 #[.agg #[.int .i64 a.k, .int .i64 a.v, .int .i64 a.c, .int .i64 a.f, .int .i64 a.m, .int .i64 a.l, .int .i64 a.n, .int .i64 a.x, .int .i64 a.z, .float .f64 a.fl]] w fun e w' => e = .returned (.bool true) ∧ Below w.heap.size w w' := by
  obtain ⟨nd, q, H⟩ := sm_is a
  have CS := fun W => c_small a W
  have hfw := fill_w q
  have CB := fun W => c_bounds (smF a) W (by rw [H.fl]; unfold W64; omega)
  rw [H.ok] at CB
  obtain ⟨e1, e2, e3, e4, e5, e6, e7, e8, e9⟩ := part_small0 q H.ql nd H.ndl
  obtain ⟨-, -, -, hndI, -, -, hfl, hlv, g1, g2, -, hml, hhf, hnn, ml1, ml2⟩ := H
  have hc : (smF a).c = a.c % 2 + 1 := rfl
  have hl : (smF a).l = a.c % 2 + 1 + 1 + a.l % 2 := rfl
  have hx : (smF a).x = a.x % 8 + 1 := rfl
  have bc : 1 ≤ (smF a).c ∧ (smF a).c ≤ 2 := by omega
  have bl : 2 ≤ (smF a).l ∧ (smF a).l ≤ 5 := by omega
  have bx : 1 ≤ (smF a).x ∧ (smF a).x ≤ 8 := by omega
  clear hc hl hx
  unfold Cfg.val at CS
  generalize bdR (smF a) = b at *
  generalize smF a = s at *
  obtain ⟨k, v, c, f, m, l, n, x, z, fl⟩ := a
  obtain ⟨sk, sv, sc, sf, sm, sl, sn, sx, sz, sfl⟩ := s
  obtain ⟨G, ML, HF, HH, ND, LV, BU, CE, RE, BL, ST, AR, BS⟩ := b
  simp only [Bd.arr, bA] at *
  subst hfl
  subst hhf
  obtain ⟨L, hL⟩ : ∃ L : Nat, lvF ((kOf nd q : Nat) : Int) 17 1 = (L : Int) := ⟨(lvF ((kOf nd q : Nat) : Int) 17 1).toNat, by omega⟩
  rw [hL] at hlv e6 e7 e8 e9
  subst hlv
  subst hndI
  have pr1 : 0 ≤ (ML - 1) * G := Int.mul_nonneg (by omega) (by omega)
  have pr2 : (ML - 1) * G ≤ sx := by rw [hml, show 1 + sx / G - 1 = sx / G by omega]; exact Int.ediv_mul_le _ (by omega)
  have pr3 : sx < ML * G := by
    have := Int.lt_ediv_add_one_mul_self sx (show 0 < G by omega)
    rw [hml, show 1 + sx / G = sx / G + 1 by omega]; exact this
  have pr4 : ML * G ≤ 100 := by
    have : ML * G ≤ 9 * 5 := Int.mul_le_mul ml2 (by omega) (by omega) (by decide)
    omega
  obtain ⟨r1, hr1, hr2, -⟩ := run_parts (P := Try.prog) 22 nd L (fillF q) (by unfold big; omega) hfw
  rw [show (L : Int).toNat = L by omega] at e6
  rw [e6] at hr2
  obtain ⟨r2, hs1, -, hs3⟩ := run_parts (P := Try.prog) 22 nd (L / 2) (fillF q) (by unfold big; omega) hfw
  rw [show ((L : Int) / 2).toNat = L / 2 by omega] at e7
  rw [show ((L / 2 : Nat) : Int) = (L : Int) / 2 by omega] at hs1
  have HN := Lib.hid hnn
  have HE7 := Lib.hid e7
  clear e1 e2 e3 e4 e5 e6 e7 hnn hml hL hfw
  generalize fillF q = fq at *
  go_enter Try.func12, Try.ntmps12
  go_upto_region 2 with (first | (apply wpl_loadS (ty := 50); rfl; rfl; rfl; kernel_rfl; (first | assumption | exact Row.new _ _ _ | (apply Row.alloc; (first | assumption | exact Row.new _ _ _ | (apply Row.alloc; (first | assumption | exact Row.new _ _ _))))); kernel_rfl; simp only [Act.put, List.setIfInBounds_toArray, List.set_cons_zero, List.set_cons_succ]) | (apply wpl_storeN; rfl; rfl; rfl; (first | rfl | simp); rfl; kernel_rfl; rfl; (simp [Value.oneCell']); simp only [Act.put]) | (go_at_call 39; (with_reducible refine (CS _).mono ?_); rintro e w1 ⟨rfl, hb1⟩))
  have R1 := Row.new w1 #[.int .i64 sk, .int .i64 sv, .int .i64 sc, .int .i64 sf, .int .i64 sm, .int .i64 sl, .int .i64 sn, .int .i64 sx, .int .i64 sz, .float .f64 fq] 50
  have HB1 := below_alloc (below_two (below_alloc (Below.refl w.heap.size w) (.cells #[.int .i64 k, .int .i64 v, .int .i64 c, .int .i64 f, .int .i64 m, .int .i64 l, .int .i64 n, .int .i64 x, .int .i64 z, .float .f64 fl] 50)) hb1) (.cells #[.int .i64 sk, .int .i64 sv, .int .i64 sc, .int .i64 sf, .int .i64 sm, .int .i64 sl, .int .i64 sn, .int .i64 sx, .int .i64 sz, .float .f64 fq] 50)
  have hl1 : w.heap.size ≤ w1.heap.size := by have := hb1.size; simp at this; omega
  generalize w1.alloc (.cells #[.int .i64 sk, .int .i64 sv, .int .i64 sc, .int .i64 sf, .int .i64 sm, .int .i64 sl, .int .i64 sn, .int .i64 sx, .int .i64 sz, .float .f64 fq] 50) = w2 at *
  generalize w1.heap.size = p1 at *
  clear hb1
  have hlt2 := R1.lt
  go_upto_region 3 with (first | (apply wpl_loadS (ty := 50); rfl; rfl; rfl; kernel_rfl; (first | assumption | exact Row.new _ _ _ | (apply Row.alloc; (first | assumption | exact Row.new _ _ _ | (apply Row.alloc; (first | assumption | exact Row.new _ _ _))))); kernel_rfl; simp only [Act.put, List.setIfInBounds_toArray, List.set_cons_zero, List.set_cons_succ]) | (go_at_call 37; (with_reducible refine (CB _).mono ?_); rintro e w3 ⟨rfl, hb3⟩))
  have R3 := (R1.below hb3 R1.lt).alloc (.cells #[.int .i64 G, .int .i64 ML, .int .i64 2, .int .i64 HH, .int .i64 (nd : Int), .int .i64 (L : Int), .int .i64 BU, .int .i64 CE, .int .i64 RE, .int .i64 BL, .int .i64 ST, .int .i64 AR, .int .i64 BS] 56)
  have B3 := Row.new w3 #[.int .i64 G, .int .i64 ML, .int .i64 2, .int .i64 HH, .int .i64 (nd : Int), .int .i64 (L : Int), .int .i64 BU, .int .i64 CE, .int .i64 RE, .int .i64 BL, .int .i64 ST, .int .i64 AR, .int .i64 BS] 56
  have HB3 := below_alloc (below_two HB1 hb3) (.cells #[.int .i64 G, .int .i64 ML, .int .i64 2, .int .i64 HH, .int .i64 (nd : Int), .int .i64 (L : Int), .int .i64 BU, .int .i64 CE, .int .i64 RE, .int .i64 BL, .int .i64 ST, .int .i64 AR, .int .i64 BS] 56)
  have hl3 : p1 < w3.heap.size := by have := hb3.size; omega
  generalize w3.alloc (.cells #[.int .i64 G, .int .i64 ML, .int .i64 2, .int .i64 HH, .int .i64 (nd : Int), .int .i64 (L : Int), .int .i64 BU, .int .i64 CE, .int .i64 RE, .int .i64 BL, .int .i64 ST, .int .i64 AR, .int .i64 BS] 56) = w4 at *
  generalize w3.heap.size = p2 at *
  clear R1 HB1 hb3 CS CB hlt2
  have c2 := R3.cell 2 rfl
  have c5 := R3.cell 5 rfl
  have c7 := R3.cell 7 rfl
  have c9 := R3.cell 9 rfl
  have b0 := B3.cell 0 rfl
  have b1 := B3.cell 1 rfl
  have b2 := B3.cell 2 rfl
  have b3 := B3.cell 3 rfl
  have b4 := B3.cell 4 rfl
  have b5 := B3.cell 5 rfl
  clear R3 B3
  have hn1 : ¬ G < 1 := by omega
  have hn2 : ¬ (sl + sc + 1) / 2 < G := by omega
  have hn3 : ¬ sx < (ML - 1) * G := by omega
  have hn4 : ¬ ML * G ≤ sx := by omega
  go_upto_region 5 with (fail)
  (refine wp_region_lin [(0, true), (1, true), (2, true), (3, true), (4, true), (5, true), (6, true)] rfl rfl (by kernel_rfl) (by kernel_rfl) (fun _ _ _ _ _ h => h) ?_; (iterate 7 (first | (apply lin_take; (simp only [List.getElem?_toArray, List.getElem?_cons_succ, List.getElem?_cons_zero]; rfl); (rfl); (intro w' hb'; (try have k_b1 := cell_keep hb' b1); (first | (go_simp; done) | (go_simp; with_reducible rfl) | (go_simp; go_bits; with_reducible rfl) | (go_simp; go_bits; done))); try simp only [Act.put, List.setIfInBounds_toArray, List.set_cons_zero, List.set_cons_succ]) | (apply lin_skip; (simp only [List.getElem?_toArray, List.getElem?_cons_succ, List.getElem?_cons_zero]; rfl); (rfl); try simp only [Act.put, List.setIfInBounds_toArray, List.set_cons_zero, List.set_cons_succ]) | (apply lin_pass; (simp only [List.getElem?_toArray, List.getElem?_cons_succ, List.getElem?_cons_zero]; rfl); (rfl); try simp only [Act.put, List.setIfInBounds_toArray, List.set_cons_zero, List.set_cons_succ]) | (apply lin_op; (simp only [List.getElem?_toArray, List.getElem?_cons_succ, List.getElem?_cons_zero]; rfl); (rfl); intro K hK; go_simp; (first | skip); refine hK _ _ ?_ ?_; (first | exact ⟨rfl, rfl, rfl, Nat.le_refl _, fun _ _ => rfl⟩ | assumption | exact below_alloc (Below.refl _ _) _ | exact below_drewN (by assumption) _); clear hK; try simp only [Act.put, List.setIfInBounds_toArray, List.set_cons_zero, List.set_cons_succ]))); refine lin_end ?_)
  clear b1 hn1 hn2 hn3 hn4
  go_wp2
  go_loop [6, 7, 8] (fun s6 s7 s8 => ∃ (n' nd' h' : Int) (t : Nat), s6 = .int .i64 n' ∧ s7 = .int .i64 nd' ∧ s8 = .int .i64 h' ∧ 0 ≤ n' ∧ n' ≤ 9 ∧ 0 ≤ nd' ∧ nd' + 2 * n' ≤ 27 ∧ 1 ≤ h' ∧ h' + n' ≤ 10 ∧ n' ≤ t ∧ halve 2 t n' (nd', h') = halve 2 600 ML (ML, 1)) (fun s6 _ _ => (intOf s6).toNat)
  case atStart => exact ⟨ML, ML, 1, 600, rfl, rfl, rfl, by omega, by omega, by omega, by omega, by omega, by omega, by omega, rfl⟩
  case round =>
    obtain ⟨n', nd', h', t, rfl, rfl, rfl, j1, j2, j3, j4, j5, j6, j7, hfin⟩ := hrel
    by_cases hgt : 1 < n'
    · have hq : n'.tdiv 2 = n' / 2 := Int.tdiv_eq_ediv_of_nonneg (by omega)
      obtain ⟨t', rfl⟩ : ∃ t', t = t' + 1 := ⟨t - 1, by omega⟩
      rw [halve, if_pos hgt] at hfin
      have hn2a : 0 ≤ n' / 2 ∧ 2 * (n' / 2) ≤ n' := by omega
      obtain ⟨hn2a, hn2b⟩ := hn2a
      generalize n' / 2 = n2 at *
      have hmx : max n2 1 = if n2 < 1 then 1 else n2 := by split <;> omega
      rw [hmx] at hfin
      have HFIN := Lib.hid hfin
      have hmb : 0 ≤ (if n2 < 1 then (1 : Int) else n2) ∧ (if n2 < 1 then (1 : Int) else n2) ≤ n2 + 1 := by split <;> omega
      have hmc : nd' + (if n2 < 1 then (1 : Int) else n2) + 2 * n2 ≤ 27 := by split <;> omega
      clear hmx hfin
      go_wp2
      go_round
      case rel => exact ⟨n2, nd' + (if n2 < 1 then (1 : Int) else n2), h' + 1, t', rfl, rfl, rfl, by omega, by omega, by omega, hmc, by omega, by omega, by omega, HFIN.out⟩
      case measure => simp [intOf]; omega
    · have hend : halve 2 t n' (nd', h') = (nd', h') := by
        cases t with
        | zero => rfl
        | succ t => rw [halve, if_neg hgt]
      rw [hend, ← HN.out, Prod.mk.injEq] at hfin
      obtain ⟨hf1, hf2⟩ := hfin
      subst hf1
      subst hf2
      clear hend
      have hL0 : (0 : Int) ≤ (L : Int) := by omega
      by_cases hL1 : (L : Int) = 1
      · have hL2 : ((L : Int) == 1) = true := by simp [hL1]
        clear HE7 hs1 hs3 hL1
        go_wp2_with (go_at_call 38; refine (c_awake20 _).mono ?_; rintro e w11 ⟨rfl, hb11⟩)
        go_ret
        exact ⟨rfl, below_two (below_drew HB3) hb11⟩
      · have he := HE7.out.resolve_left hL1
        rw [he] at hs3
        have hL2 : ((L : Int) == 1) = false := by simp [hL1]
        clear HE7 he
        go_wp2_with (go_at_call 38; refine (c_awake20 _).mono ?_; rintro e w11 ⟨rfl, hb11⟩)
        go_ret
        exact ⟨rfl, below_two (below_drew HB3) hb11⟩
end Go.Proofs.Ytldeohbfhigagaa
