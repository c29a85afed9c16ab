/- A block of the stream, the reference's. -/
import Derived.Test.YtlbpmboknmbcgaaChacD
set_option linter.unusedVariables false
set_option linter.unusedSimpArgs false
namespace Go.Proofs.Ytlbpmboknmbcgaa
open Go.RowKit

/-- k bytes of word i are laid -/
def outQ (P0 Y : List UInt8) (i k : Nat) : List UInt8 := P0.take (4 * i) ++ (Y.take k ++ P0.drop (4 * i + k))
theorem outQ_zero (P0 Y : List UInt8) (i : Nat) : outQ P0 Y i 0 = P0 := by simp [outQ]
theorem outQ_length {P0 Y : List UInt8} {i k : Nat} (h : P0.length = 64) (hY : Y.length = 4) (hi : i < 16) (hk : k ≤ 4) : (outQ P0 Y i k).length = 64 := by simp [outQ]; omega
theorem outQ_end {P0 Y P1 : List UInt8} {i : Nat} (hY : Y.length = 4) (h : P0.take (4 * i) ++ (Y ++ P0.drop (4 * i + 4)) = P1) : outQ P0 Y i 4 = P1 := by
  unfold outQ
  rw [List.take_of_length_le (l := Y) (by omega)]
  exact h
theorem bv_setB (xs : List UInt8) (j : Nat) (b : UInt8) : (bv xs).toArray.setIfInBounds j (.int .u8 (b.toNat : Int)) = (bv (xs.set j b)).toArray := by simp [bv, List.map_set]
theorem outQ_step {P0 Y : List UInt8} {i k : Nat} (h : P0.length = 64) (hY : Y.length = 4) (hi : i < 16) (hk : k < 4) : (outQ P0 Y i k).set (4 * i + k) (Y.getD k 0) = outQ P0 Y i (k + 1) := by
  apply List.ext_getElem?
  intro j
  unfold outQ
  rw [List.getElem?_set]
  simp only [List.getElem?_append, List.getElem?_take, List.getElem?_drop, List.length_append, List.length_take, List.length_drop]
  have e1 : min (4 * i) P0.length = 4 * i := by omega
  have e2 : min k Y.length = k := by omega
  have e3 : min (k + 1) Y.length = k + 1 := by omega
  rw [e1, e2, e3]
  rcases Nat.lt_trichotomy j (4 * i + k) with hj | hj | hj
  · have n1 : ¬ (4 * i + k = j) := by omega
    rcases Nat.lt_or_ge j (4 * i) with h4 | h4
    · simp [n1, h4]
    · have n2 : ¬ j < 4 * i := by omega
      have n3 : j - 4 * i < k := by omega
      have n4 : j - 4 * i < k + 1 := by omega
      simp [n1, n2, n3, n4]
  · subst hj
    have n2 : ¬ 4 * i + k < 4 * i := by omega
    have n5 : 4 * i + k - 4 * i = k := by omega
    have n6 : 4 * i + k < 4 * i + (k + (P0.length - (4 * i + k))) := by omega
    rw [if_pos rfl, if_pos n6, if_neg n2, n5, if_pos (by omega), if_pos (by omega), List.getD_eq_getElem?_getD, List.getElem?_eq_getElem (by omega)]
    rfl
  · have n1 : ¬ (4 * i + k = j) := by omega
    have n2 : ¬ j < 4 * i := by omega
    have n3 : ¬ j - 4 * i < k := by omega
    have n4 : ¬ j - 4 * i < k + 1 := by omega
    rw [if_neg n1, if_neg n2, if_neg n3, if_neg n2, if_neg n4]
    congr 1
    omega
set_option maxHeartbeats 4000000 in
set_option maxRecDepth 100000 in
theorem c_rBlock (key nonce : List UInt8) (ctr : Nat) (hk : key.length = 32) (hn : nonce.length = 12) (hc : ctr < 4294967296) (w : World) :
    Calls Try.prog 78 #[.agg (bv key).toArray, .agg (bv nonce).toArray, .int .u32 (ctr : Int)] w fun e w' => e = .returned (.agg (bv (blockL key nonce ctr)).toArray) ∧ Below w.heap.size w w' := by
  have HK := Lib.hid hk
  have HN := Lib.hid hn
  clear hk hn
  go_enter Try.func78, Try.ntmps78
  go_wp2_with fail
  obtain ⟨h3, h4, h6, h7, hz, hB⟩ := alloc4 w (bv key).toArray 48 (bv nonce).toArray 30 (bv (List.replicate 64 0)).toArray 92 (wv (initA key 0)).toArray 98
  have HZ := Lib.hid hz
  clear hz
  go_loopw [8] (fun s14 wr => ∃ i : Nat, i ≤ 8 ∧ s14 = .int .i64 (i : Int) ∧ Row wr (w.heap.size + 3) (wv (initA key i)).toArray 98 ∧ Row wr w.heap.size (bv key).toArray 48 ∧ Row wr (w.heap.size + 1) (bv nonce).toArray 30 ∧ Row wr (w.heap.size + 2) (bv (List.replicate 64 0)).toArray 92 ∧ Below w.heap.size w wr) (fun i _ => (8 - intOf i).toNat)
  case atStart => exact ⟨0, by omega, rfl, h7, h3, h4, h6, hB⟩
  case round =>
    clear h7 h3 h4 h6 hB HZ
    obtain ⟨i, hi, rfl, h7, h3, h4, h6, hB⟩ := hrel
    by_cases hlt : i < 8
    · have hRd := row_part h3 (4 * i) 4 (by rw [HK.out]; omega)
      have hw8 : leN (((key.drop (4 * i)).take 4).take 8) = leN ((key.drop (4 * i)).take 4) := by rw [List.take_of_length_le (l := (key.drop (4 * i)).take 4) (by rw [List.length_take]; omega)]
      have HW := Lib.hid hw8
      clear hw8
      have hst := initA_step key hlt
      have hln := initA_length key (i := i) (by omega)
      obtain ⟨w0, w1⟩ := wordAt_range key i
      have hwa : ((leN ((key.drop (4 * i)).take 4) : Nat) : Int) = wordAt key i := rfl
      have HWA := Lib.hid hwa
      have HST := Lib.hid hst
      have HLN := Lib.hid hln
      clear hst hln hwa
      generalize wordAt key i = wd at *
      have hsl := slice_arr (P := Try.prog) (t := 48) Try.underlying48 (by kernel_rfl) w.heap.size (4 * (i : Int)) (4 * (i : Int) + 4) (4 * i) (4 * i + 4) (by omega) (by omega) (by omega) (by omega) (by omega)
      rw [show 4 * i + 4 - 4 * i = 4 by omega] at hsl
      go_wp2_with (first | (go_at_call 48; refine (c_rGet _ _ _ ((key.drop (4*i)).take 4) _ hRd (by decide)).mono ?_; rintro e w' ⟨rfl, rfl⟩; rw [HW.out, HWA.out]) | (apply wpl_storeY'; rfl; rfl; rfl; (focus (go_simp; try rfl)); kernel_rfl; rfl; rfl; exact h7; (simp only [List.size_toArray, wv_length, HLN.out]; omega); intro W1 hW1; simp only [Act.put]))
      have hrow := hW1.row
      rw [wv_set, HST.out] at hrow
      go_roundw
      case rel => exact ⟨i + 1, by omega, by go_num, hrow, h3.upd hW1 (by omega), h4.upd hW1 (by omega), h6.upd hW1 (by omega), hB.trans (hW1.below (by omega))⟩
      case measure => simp [intOf]; omega
    · obtain rfl : i = 8 := by omega
      simp only [show ((8 : Nat) : Int) = 8 from rfl]
      have hln := initA_length key (i := 8) (by omega)
      have HLN := Lib.hid hln
      clear hln
      go_wp2_with (apply wpl_storeY'; rfl; rfl; rfl; (focus (go_simp; try rfl)); kernel_rfl; rfl; rfl; exact h7; (simp only [List.size_toArray, wv_length, HLN.out]; omega); intro W1 hW1; simp only [Act.put])
      have k7 := hW1.row
      rw [wv_set, initA_last key nonce ctr] at k7
      have k3 := h3.upd hW1 (by omega)
      have k4 := h4.upd hW1 (by omega)
      have k6 := h6.upd hW1 (by omega)
      have kB := hB.trans (hW1.below (by omega))
      clear h7 h3 h4 h6 hB hW1 HLN
      go_loopw [9] (fun s31 wr => ∃ i : Nat, i ≤ 3 ∧ s31 = .int .i64 (i : Int) ∧ Row wr (w.heap.size + 3) (wv (initB key nonce ctr i)).toArray 98 ∧ Row wr (w.heap.size + 1) (bv nonce).toArray 30 ∧ Row wr (w.heap.size + 2) (bv (List.replicate 64 0)).toArray 92 ∧ Below w.heap.size w wr) (fun i _ => (3 - intOf i).toNat)
      case atStart => exact ⟨0, by omega, rfl, k7, k4, k6, kB⟩
      case round =>
        clear k7 k3 k4 k6 kB
        obtain ⟨i, hi, rfl, h7, h4, h6, hB⟩ := hrel
        by_cases hlt : i < 3
        · have hRd := row_part h4 (4 * i) 4 (by rw [HN.out]; omega)
          have hw8 : leN (((nonce.drop (4 * i)).take 4).take 8) = leN ((nonce.drop (4 * i)).take 4) := by rw [List.take_of_length_le (l := (nonce.drop (4 * i)).take 4) (by rw [List.length_take]; omega)]
          have HW := Lib.hid hw8
          clear hw8
          have hst := initB_step key nonce ctr hlt
          have hln := initB_length key nonce ctr (i := i) (by omega)
          obtain ⟨w0, w1⟩ := wordAt_range nonce i
          have hwa : ((leN ((nonce.drop (4 * i)).take 4) : Nat) : Int) = wordAt nonce i := rfl
          have HWA := Lib.hid hwa
          have HST := Lib.hid hst
          have HLN := Lib.hid hln
          clear hst hln hwa
          generalize wordAt nonce i = wd at *
          have hsl := slice_arr (P := Try.prog) (t := 30) Try.underlying30 (by kernel_rfl) (w.heap.size + 1) (4 * (i : Int)) (4 * (i : Int) + 4) (4 * i) (4 * i + 4) (by omega) (by omega) (by omega) (by omega) (by omega)
          rw [show 4 * i + 4 - 4 * i = 4 by omega] at hsl
          go_wp2_with (first | (go_at_call 48; refine (c_rGet _ _ _ ((nonce.drop (4*i)).take 4) _ hRd (by decide)).mono ?_; rintro e w' ⟨rfl, rfl⟩; rw [HW.out, HWA.out]) | (apply wpl_storeY'; rfl; rfl; rfl; (focus (go_simp; try rfl)); kernel_rfl; rfl; rfl; exact h7; (simp only [List.size_toArray, wv_length, HLN.out]; omega); intro W1 hW1; simp only [Act.put]))
          have hrow := hW1.row
          rw [wv_set, HST.out] at hrow
          go_roundw
          case rel => exact ⟨i + 1, by omega, by go_num, hrow, h4.upd hW1 (by omega), h6.upd hW1 (by omega), hB.trans (hW1.below (by omega))⟩
          case measure => simp [intOf]; omega
        · obtain rfl : i = 3 := by omega
          simp only [show ((3 : Nat) : Int) = 3 from rfl]
          have hln := initB_length key nonce ctr (i := 3) (by omega)
          rw [initB_last] at h7 hln
          have HOE : IsBlk _ _ := ⟨outP_end key nonce ctr⟩
          have HBK : IsB key nonce ctr (blockL key nonce ctr) := ⟨rfl⟩
          generalize blockL key nonce ctr = BL at *
          generalize initW key nonce ctr = S at *
          have HLN := Lib.hid hln
          clear hln
          have hall := wv_all S
          go_upto_region 12 with (first | (apply wpl_loadS (ty := 98); rfl; rfl; rfl; kernel_rfl; exact h7; (simp only [List.size_toArray, wv_length, HLN.out]; kernel_rfl); simp only [Act.put, List.setIfInBounds_toArray, List.set_cons_zero, List.set_cons_succ]) | (apply wpl_storeN; rfl; rfl; rfl; (first | rfl | simp); rfl; (simp only [List.size_toArray, wv_length, HLN.out]; kernel_rfl); (simp only [List.size_toArray, wv_length, HLN.out]; rfl); exact hall; simp only [Act.put]))
          have g7 := h7.alloc (.cells (wv S).toArray 98)
          have g6 := h6.alloc (.cells (wv S).toArray 98)
          have g10 := Row.new wr (wv S).toArray 98
          have hz := h7.lt
          have gB := hB.trans (belowB_alloc (B := w.heap.size) (w := wr) (by omega) (.cells (wv S).toArray 98))
          generalize wr.alloc (.cells (wv S).toArray 98) = w2 at *
          generalize wr.heap.size = d10 at *
          clear h7 h4 h6 hB
          go_wp2_with fail
          go_loopw [11] (fun s47 wr => ∃ k : Nat, k ≤ 10 ∧ s47 = .int .i64 (k : Int) ∧ Row wr (w.heap.size + 3) (wv S).toArray 98 ∧ Row wr d10 (wv (doubles S k)).toArray 98 ∧ Row wr (w.heap.size + 2) (bv (List.replicate 64 0)).toArray 92 ∧ Below w.heap.size w wr) (fun i _ => (10 - intOf i).toNat)
          case atStart => exact ⟨0, by omega, rfl, g7, g10, g6, gB⟩
          case round =>
            clear g7 g10 g6 gB
            obtain ⟨k, hk, rfl, h7, h10, h6, hB⟩ := hrel
            have hdl : (doubles S k).length = 16 := by rw [doubles_length, HLN.out]
            have HDL := Lib.hid hdl
            clear hdl
            by_cases hlt : k < 10
            · have hdn : (doubles S (k + 1)).length = 16 := by rw [doubles_length, HLN.out]
              have HDN := Lib.hid hdn
              have HDS : IsDbl (doubles S k) (doubles S (k + 1)) := ⟨rfl⟩
              clear hdn
              have hal2 := wv_all (doubles S (k + 1))
              have HE : IsD S (k + 1) (doubles S (k + 1)) := ⟨rfl⟩
              generalize doubles S (k + 1) = Dn at *
              generalize doubles S k = Dk at *
              go_upto_region 14 with (first | (apply wpl_loadS (ty := 98); rfl; rfl; rfl; kernel_rfl; exact h10; (simp only [List.size_toArray, wv_length, HDL.out]; kernel_rfl); simp only [Act.put, List.setIfInBounds_toArray, List.set_cons_zero, List.set_cons_succ]) | (go_at_call 83; refine (c_rDouble Dk HDL.out _).mono ?_; rintro e w3 ⟨rfl, hb3⟩; rw [HDS.out]) | (apply wpl_storeX (cells := (wv Dn).toArray); rfl; rfl; rfl; rfl; exact h10.below hb3 h10.lt; (simp only [List.size_toArray, wv_length, HDN.out]; kernel_rfl); (simp only [List.size_toArray, wv_length, HDL.out, HDN.out]); exact hal2; intro W6 hW6; simp only [Act.put]))
              have k10 := hW6.row
              have k7 := (h7.below hb3 h7.lt).upd hW6 (by omega)
              have k6 := (h6.below hb3 h6.lt).upd hW6 (by omega)
              have l10 := h10.lt
              have kB := hB.trans ((hb3.mono (by omega)).trans (hW6.below (by omega)))
              clear h10 h7 h6 hB hb3 hW6
              go_wp2
              rw [← HE.out] at k10
              go_roundw
              case rel => exact ⟨k + 1, by omega, by go_num, k7, k10, k6, kB⟩
              case measure => simp [intOf]; omega
            · obtain rfl : k = 10 := by omega
              simp only [show ((10 : Nat) : Int) = 10 from rfl]
              have HE10 : IsD S 10 (doubles S 10) := ⟨rfl⟩
              generalize doubles S 10 = D at *
              go_wp2_with fail
              have g11 := Row.new wr (bv (outP S D 0)).toArray 92
              have g7 := h7.alloc (.cells (bv (outP S D 0)).toArray 92)
              have g10 := h10.alloc (.cells (bv (outP S D 0)).toArray 92)
              have g6 := h6.alloc (.cells (bv (outP S D 0)).toArray 92)
              have l10 := h10.lt
              have l7 := h7.lt
              have gB := hB.trans (belowB_alloc (B := w.heap.size) (w := wr) (by omega) (.cells (bv (outP S D 0)).toArray 92))
              generalize wr.heap.size = gO at *
              go_loopw [13] (fun s52 wq => ∃ i : Nat, i ≤ 16 ∧ s52 = .int .i64 (i : Int) ∧ Row wq (w.heap.size + 3) (wv S).toArray 98 ∧ Row wq d10 (wv D).toArray 98 ∧ Row wq gO (bv (outP S D i)).toArray 92 ∧ Row wq (w.heap.size + 2) (bv (List.replicate 64 0)).toArray 92 ∧ Below w.heap.size w wq) (fun i _ => (16 - intOf i).toNat)
              case atStart => exact ⟨0, by omega, rfl, g7, g10, g11, g6, gB⟩
              case round =>
                clear g7 g10 g11 g6 gB h7 h10 h6 hB
                obtain ⟨i, hi, rfl, h7, h10, h11, h6, hB⟩ := hrel
                by_cases hlt : i < 16
                · have hN : (D.getD i 0 + S.getD i 0) % 4294967296 = (((addW (S.getD i 0) (D.getD i 0)).toNat : Nat) : Int) := by unfold addW; rw [Int.add_comm]; omega
                  have hNl : (addW (S.getD i 0) (D.getD i 0)).toNat < 4294967296 := by unfold addW; omega
                  have hwb : leP (addW (S.getD i 0) (D.getD i 0)).toNat 4 = wbytes S D i := rfl
                  have HWB := Lib.hid hwb
                  have cS := wv_cell h7 (j := i) (by rw [HLN.out]; exact hlt)
                  have cD := wv_cell h10 (j := i) (by rw [HDL.out]; exact hlt)
                  clear hwb
                  generalize (addW (S.getD i 0) (D.getD i 0)).toNat = N at *
                  generalize S.getD i 0 = x at *
                  generalize D.getD i 0 = y at *
                  have b7 := h7.lt
                  have b10 := h10.lt
                  have hlt2 : (i : Int) < 16 := by omega
                  have hol := outP_length S D hi
                  have hst := outP_step S D hlt
                  have HOL := Lib.hid hol
                  have HST := Lib.hid hst
                  clear hol hst
                  have hw5 : IntKind.u32.wrap (y + x) = (N : Int) := hN
                  have hyl := wbytes_length S D i
                  have HYL := Lib.hid hyl
                  clear hyl
                  have HO1 : IsOut S D (i + 1) (outP S D (i + 1)) := ⟨rfl⟩
                  generalize outP S D (i + 1) = P1 at *
                  generalize outP S D i = P0 at *
                  generalize wbytes S D i = Y at *
                  go_upto_region 20 with fail
                  (refine wp_region_linN (Below wr.heap.size) (Below wr.heap.size) (wayB _) (wayB _) (fun _ _ h => h) (.free 0 (.free 1 (.hot 2 (.free 3 (.free 4 (.hot 5 (.free 6 (.free 7 .nil)))))))) rfl (by kernel_rfl) (by kernel_rfl) (fun _ _ _ _ _ h => h) ?_; (first | (apply linN_free; (simp only [List.getElem?_toArray, List.getElem?_cons_succ, List.getElem?_cons_zero]; rfl); (rfl); (intro w'; (first | (go_simp; done) | (go_simp; with_reducible rfl) | (go_simp; go_bits; with_reducible rfl) | (go_simp; go_bits; done))); try simp only [Act.put, List.setIfInBounds_toArray, List.set_cons_zero, List.set_cons_succ]) | (apply linN_freeSkip; (simp only [List.getElem?_toArray, List.getElem?_cons_succ, List.getElem?_cons_zero]; rfl); (rfl); try simp only [Act.put, List.setIfInBounds_toArray, List.set_cons_zero, List.set_cons_succ])); (first | (apply linN_free; (simp only [List.getElem?_toArray, List.getElem?_cons_succ, List.getElem?_cons_zero]; rfl); (rfl); (intro w'; (first | (go_simp; done) | (go_simp; with_reducible rfl) | (go_simp; go_bits; with_reducible rfl) | (go_simp; go_bits; done))); try simp only [Act.put, List.setIfInBounds_toArray, List.set_cons_zero, List.set_cons_succ]) | (apply linN_freeSkip; (simp only [List.getElem?_toArray, List.getElem?_cons_succ, List.getElem?_cons_zero]; rfl); (rfl); try simp only [Act.put, List.setIfInBounds_toArray, List.set_cons_zero, List.set_cons_succ])); (first | (apply linN_hot; (simp only [List.getElem?_toArray, List.getElem?_cons_succ, List.getElem?_cons_zero]; rfl); (rfl); (intro w' hb'; (try have k_cS := keepB (by first | assumption | omega | (simp; done) | (simp; omega)) hb' cS); (try have k_cD := keepB (by first | assumption | omega | (simp; done) | (simp; omega)) hb' cD); (first | (go_simp; done) | (go_simp; with_reducible rfl) | (go_simp; go_bits; with_reducible rfl) | (go_simp; go_bits; done))); try simp only [Act.put, List.setIfInBounds_toArray, List.set_cons_zero, List.set_cons_succ]) | (apply linN_hotSkip; (simp only [List.getElem?_toArray, List.getElem?_cons_succ, List.getElem?_cons_zero]; rfl); (rfl); try simp only [Act.put, List.setIfInBounds_toArray, List.set_cons_zero, List.set_cons_succ])); (first | (apply linN_free; (simp only [List.getElem?_toArray, List.getElem?_cons_succ, List.getElem?_cons_zero]; rfl); (rfl); (intro w'; (first | (go_simp; done) | (go_simp; with_reducible rfl) | (go_simp; go_bits; with_reducible rfl) | (go_simp; go_bits; done))); try simp only [Act.put, List.setIfInBounds_toArray, List.set_cons_zero, List.set_cons_succ]) | (apply linN_freeSkip; (simp only [List.getElem?_toArray, List.getElem?_cons_succ, List.getElem?_cons_zero]; rfl); (rfl); try simp only [Act.put, List.setIfInBounds_toArray, List.set_cons_zero, List.set_cons_succ])); (first | (apply linN_free; (simp only [List.getElem?_toArray, List.getElem?_cons_succ, List.getElem?_cons_zero]; rfl); (rfl); (intro w'; (first | (go_simp; done) | (go_simp; with_reducible rfl) | (go_simp; go_bits; with_reducible rfl) | (go_simp; go_bits; done))); try simp only [Act.put, List.setIfInBounds_toArray, List.set_cons_zero, List.set_cons_succ]) | (apply linN_freeSkip; (simp only [List.getElem?_toArray, List.getElem?_cons_succ, List.getElem?_cons_zero]; rfl); (rfl); try simp only [Act.put, List.setIfInBounds_toArray, List.set_cons_zero, List.set_cons_succ])); (first | (apply linN_hot; (simp only [List.getElem?_toArray, List.getElem?_cons_succ, List.getElem?_cons_zero]; rfl); (rfl); (intro w' hb'; (try have k_cS := keepB (by first | assumption | omega | (simp; done) | (simp; omega)) hb' cS); (try have k_cD := keepB (by first | assumption | omega | (simp; done) | (simp; omega)) hb' cD); (first | (go_simp; done) | (go_simp; with_reducible rfl) | (go_simp; go_bits; with_reducible rfl) | (go_simp; go_bits; done))); try simp only [Act.put, List.setIfInBounds_toArray, List.set_cons_zero, List.set_cons_succ]) | (apply linN_hotSkip; (simp only [List.getElem?_toArray, List.getElem?_cons_succ, List.getElem?_cons_zero]; rfl); (rfl); try simp only [Act.put, List.setIfInBounds_toArray, List.set_cons_zero, List.set_cons_succ])); (first | (apply linN_free; (simp only [List.getElem?_toArray, List.getElem?_cons_succ, List.getElem?_cons_zero]; rfl); (rfl); (intro w'; (first | (go_simp; done) | (go_simp; with_reducible rfl) | (go_simp; go_bits; with_reducible rfl) | (go_simp; go_bits; done))); try simp only [Act.put, List.setIfInBounds_toArray, List.set_cons_zero, List.set_cons_succ]) | (apply linN_freeSkip; (simp only [List.getElem?_toArray, List.getElem?_cons_succ, List.getElem?_cons_zero]; rfl); (rfl); try simp only [Act.put, List.setIfInBounds_toArray, List.set_cons_zero, List.set_cons_succ])); (first | (apply linN_free; (simp only [List.getElem?_toArray, List.getElem?_cons_succ, List.getElem?_cons_zero]; rfl); (rfl); (intro w'; (first | (go_simp; done) | (go_simp; with_reducible rfl) | (go_simp; go_bits; with_reducible rfl) | (go_simp; go_bits; done))); try simp only [Act.put, List.setIfInBounds_toArray, List.set_cons_zero, List.set_cons_succ]) | (apply linN_freeSkip; (simp only [List.getElem?_toArray, List.getElem?_cons_succ, List.getElem?_cons_zero]; rfl); (rfl); try simp only [Act.put, List.setIfInBounds_toArray, List.set_cons_zero, List.set_cons_succ])); refine linN_end ?_)
                  go_wp2_with fail
                  have k7 : Row wr.drew (w.heap.size + 3) _ _ := h7
                  have k10 : Row wr.drew d10 _ _ := h10
                  have k6 : Row wr.drew (w.heap.size + 2) _ _ := h6
                  have k11 : Row wr.drew gO _ _ := h11
                  have kB := below_drew hB
                  rw [← outQ_zero P0 Y i] at k11
                  clear h7 h10 h11 h6 hB cS cD hN hw5
                  generalize wr.drew = wd at *
                  go_loopw [15] (fun s15 wr => ∃ k : Nat, k ≤ 4 ∧ s15 = .int .i64 (k : Int) ∧ Row wr (w.heap.size + 3) (wv S).toArray 98 ∧ Row wr d10 (wv D).toArray 98 ∧ Row wr gO (bv (outQ P0 Y i k)).toArray 92 ∧ Row wr (w.heap.size + 2) (bv (List.replicate 64 0)).toArray 92 ∧ Below w.heap.size w wr) (fun i _ => (4 - intOf i).toNat)
                  case atStart => exact ⟨0, by omega, rfl, k7, k10, k11, k6, kB⟩
                  case round =>
                    clear k7 k10 k11 k6 kB
                    obtain ⟨k, hk, rfl, h7, h10, h11, h6, hB⟩ := hrel
                    by_cases hlk : k < 4
                    · have hol : (outQ P0 Y i k).length = 64 := outQ_length HOL.out HYL.out hlt hk
                      have hst := outQ_step HOL.out HYL.out hlt hlk
                      have HQL := Lib.hid hol
                      have HQS := Lib.hid hst
                      clear hol hst
                      have hby : (N : Int) / 2 ^ (8 * k) % 256 = ((Y.getD k 0).toNat : Int) := by
                        rw [sh_byte, ← HWB.out]
                        congr 2
                        simp [leP, hlk]
                      go_wp2_with (apply wpl_storeY'; rfl; rfl; rfl; (focus (go_simp; try rfl)); kernel_rfl; rfl; rfl; exact h11; (simp only [List.size_toArray, bv_length, HQL.out]; omega); intro W1 hW1; simp only [Act.put])
                      have hrow := hW1.row
                      rw [← List.getD_eq_getElem?_getD, bv_setB, HQS.out] at hrow
                      have q7 := h7.upd hW1 (by omega)
                      have q10 := h10.upd hW1 (by omega)
                      have q6 := h6.upd hW1 (by omega)
                      have qB := hB.trans (hW1.below (by omega))
                      clear h7 h10 h11 h6 hB hW1 hby
                      go_roundw
                      case rel => exact ⟨k + 1, by omega, by go_num, q7, q10, hrow, q6, qB⟩
                      case measure => simp [intOf]; omega
                    · obtain rfl : k = 4 := by omega
                      rw [outQ_end HYL.out HST.out, ← HO1.out] at h11
                      go_wp2
                      go_roundw
                      case rel => exact ⟨i + 1, by omega, by go_num, h7, h10, h11, h6, hB⟩
                      case measure => simp [intOf]; omega
                · obtain rfl : i = 16 := by omega
                  rw [← HE10.out, HOE.out] at h11
                  have hbl : BL.length = 64 := by rw [← HOE.out, outP_length _ _ (Nat.le_refl _)]
                  have HBL := Lib.hid hbl
                  clear hbl
                  have hba := bv_all BL
                  go_wp2_with (first | (apply wpl_loadS (ty := 92); rfl; rfl; rfl; kernel_rfl; exact h11; (simp only [List.size_toArray, bv_length, HBL.out]; kernel_rfl); simp only [Act.put, List.setIfInBounds_toArray, List.set_cons_zero, List.set_cons_succ]) | (apply wpl_storeX; rfl; rfl; rfl; rfl; exact h6; (simp only [List.size_toArray, bv_length, HBL.out]; kernel_rfl); (simp only [List.size_toArray, bv_length, HBL.out]; rfl); exact hba; intro W6 hW6; simp only [Act.put]))
                  refine bodyPost_ret (results_cell1 rfl rfl (run_loadRow _ _ _ _ _ 0 hW6.row (by simp only [List.size_toArray, bv_length, HBL.out]; kernel_rfl) (by kernel_rfl))) rfl ⟨by rw [HBK.out], hB.trans (hW6.below (by omega))⟩
end Go.Proofs.Ytlbpmboknmbcgaa
