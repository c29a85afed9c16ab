/- A block of the stream, the program's and the reference's. -/
import Derived.Test.YtlbpmboknmbcgaaChacC
import Derived.Test.YtlbpmboknmbcgaaDiskE
set_option linter.unusedVariables false
set_option linter.unusedSimpArgs false
namespace Go.Proofs.Ytlbpmboknmbcgaa
open Go.RowKit

def initA (key : List UInt8) (i : Nat) : List Int := [1634760805, 857760878, 2036477234, 1797285236] ++ (List.range i).map (wordAt key) ++ List.replicate (12 - i) 0
def initB (key nonce : List UInt8) (ctr i : Nat) : List Int := [1634760805, 857760878, 2036477234, 1797285236] ++ (List.range 8).map (wordAt key) ++ [(ctr : Int)] ++ (List.range i).map (wordAt nonce) ++ List.replicate (3 - i) 0
theorem initA_step (key : List UInt8) {i : Nat} (h : i < 8) : (initA key i).set (4 + i) (wordAt key i) = initA key (i + 1) := by
  obtain rfl | rfl | rfl | rfl | rfl | rfl | rfl | rfl : i = 0 ∨ i = 1 ∨ i = 2 ∨ i = 3 ∨ i = 4 ∨ i = 5 ∨ i = 6 ∨ i = 7 := by omega
  all_goals rfl
theorem initA_last (key nonce : List UInt8) (ctr : Nat) : (initA key 8).set 12 (ctr : Int) = initB key nonce ctr 0 := rfl
theorem initB_step (key nonce : List UInt8) (ctr : Nat) {i : Nat} (h : i < 3) : (initB key nonce ctr i).set (13 + i) (wordAt nonce i) = initB key nonce ctr (i + 1) := by
  obtain rfl | rfl | rfl : i = 0 ∨ i = 1 ∨ i = 2 := by omega
  all_goals rfl
theorem initB_last (key nonce : List UInt8) (ctr : Nat) : initB key nonce ctr 3 = initW key nonce ctr := rfl
theorem initA_length (key : List UInt8) {i : Nat} (h : i ≤ 8) : (initA key i).length = 16 := by simp [initA]; omega
theorem initB_length (key nonce : List UInt8) (ctr : Nat) {i : Nat} (h : i ≤ 3) : (initB key nonce ctr i).length = 16 := by simp [initB]; omega
theorem wordAt_range (xs : List UInt8) (i : Nat) : 0 ≤ wordAt xs i ∧ wordAt xs i < 4294967296 := by
  unfold wordAt
  have h := leN_lt ((xs.drop (4 * i)).take 4)
  have h2 : 256 ^ ((xs.drop (4 * i)).take 4).length ≤ 256 ^ 4 := Nat.pow_le_pow_right (by decide) (List.length_take_le _ _)
  have h3 : (256 : Nat) ^ 4 = 4294967296 := rfl
  omega
/-- what stands in the block behind i words -/
def outP (s t : List Int) (i : Nat) : List UInt8 := (List.range i).flatMap (wbytes s t) ++ List.replicate (64 - 4 * i) 0
theorem outP_length (s t : List Int) {i : Nat} (h : i ≤ 16) : (outP s t i).length = 64 := by
  unfold outP
  rw [List.length_append, flat4_length _ (wbytes_length s t), List.length_replicate]
  omega
theorem outP_step (s t : List Int) {i : Nat} (h : i < 16) : (outP s t i).take (4 * i) ++ (wbytes s t i ++ (outP s t i).drop (4 * i + 4)) = outP s t (i + 1) := by
  have hl := flat4_length _ (wbytes_length s t) i
  have e1 : (outP s t i).take (4 * i) = (List.range i).flatMap (wbytes s t) := by
    unfold outP
    rw [List.take_append_of_le_length (by omega), List.take_of_length_le (by omega)]
  have e2 : (outP s t i).drop (4 * i + 4) = List.replicate (64 - 4 * (i + 1)) 0 := by
    unfold outP
    rw [List.drop_append, List.drop_of_length_le (by omega), hl, List.nil_append, List.drop_replicate]
    congr 1
    omega
  rw [e1, e2]
  unfold outP
  rw [List.range_succ, List.flatMap_append]
  simp
theorem outP_end (key nonce : List UInt8) (ctr : Nat) : outP (initW key nonce ctr) (doubles (initW key nonce ctr) 10) 16 = blockL key nonce ctr := by
  unfold outP blockL
  simp
structure IsDbl (a b : List Int) : Prop where
  out : doubleL a = b
structure IsD (S : List Int) (k : Nat) (D : List Int) : Prop where
  out : doubles S k = D
structure IsOut (S D : List Int) (i : Nat) (P : List UInt8) : Prop where
  out : outP S D i = P
structure IsB (key nonce : List UInt8) (ctr : Nat) (b : List UInt8) : Prop where
  out : blockL key nonce ctr = b
structure IsBlk (S : List Int) (b : List UInt8) : Prop where
  out : outP S (doubles S 10) 16 = b
theorem alloc2 (w : World) (c0 : Array Value) (t0 : TypeId) (c1 : Array Value) (t1 : TypeId) :
    Row ((w.alloc (.cells c0 t0)).alloc (.cells c1 t1)) w.heap.size c0 t0 ∧ Row ((w.alloc (.cells c0 t0)).alloc (.cells c1 t1)) (w.heap.size + 1) c1 t1 ∧
    ((w.alloc (.cells c0 t0)).alloc (.cells c1 t1)).heap.size = w.heap.size + 2 ∧ Below w.heap.size w ((w.alloc (.cells c0 t0)).alloc (.cells c1 t1)) := by
  have e1 : (w.alloc (.cells c0 t0)).heap.size = w.heap.size + 1 := by simp
  have r1 := Row.new (w.alloc (.cells c0 t0)) c1 t1
  rw [e1] at r1
  exact ⟨(Row.new w c0 t0).alloc _, r1, by simp, below_alloc (below_alloc (Below.refl _ _) _) _⟩
theorem alloc4 (w : World) (c0 : Array Value) (t0 : TypeId) (c1 : Array Value) (t1 : TypeId) (c2 : Array Value) (t2 : TypeId) (c3 : Array Value) (t3 : TypeId) :
    Row ((((w.alloc (.cells c0 t0)).alloc (.cells c1 t1)).alloc (.cells c2 t2)).alloc (.cells c3 t3)) w.heap.size c0 t0 ∧ Row ((((w.alloc (.cells c0 t0)).alloc (.cells c1 t1)).alloc (.cells c2 t2)).alloc (.cells c3 t3)) (w.heap.size + 1) c1 t1 ∧
    Row ((((w.alloc (.cells c0 t0)).alloc (.cells c1 t1)).alloc (.cells c2 t2)).alloc (.cells c3 t3)) (w.heap.size + 2) c2 t2 ∧ Row ((((w.alloc (.cells c0 t0)).alloc (.cells c1 t1)).alloc (.cells c2 t2)).alloc (.cells c3 t3)) (w.heap.size + 3) c3 t3 ∧
    ((((w.alloc (.cells c0 t0)).alloc (.cells c1 t1)).alloc (.cells c2 t2)).alloc (.cells c3 t3)).heap.size = w.heap.size + 4 ∧ Below w.heap.size w ((((w.alloc (.cells c0 t0)).alloc (.cells c1 t1)).alloc (.cells c2 t2)).alloc (.cells c3 t3)) := by
  obtain ⟨a0, a1, hz, hB⟩ := alloc2 w c0 t0 c1 t1
  obtain ⟨b0, b1, hz2, hB2⟩ := alloc2 ((w.alloc (.cells c0 t0)).alloc (.cells c1 t1)) c2 t2 c3 t3
  rw [hz] at b0 b1 hz2
  exact ⟨(a0.alloc _).alloc _, (a1.alloc _).alloc _, b0, b1, hz2, below_two hB hB2⟩
set_option maxHeartbeats 4000000 in
set_option maxRecDepth 100000 in
theorem c_block (key nonce : List UInt8) (ctr : Nat) (hk : key.length = 32) (hn : nonce.length = 12) (hc : ctr < 4294967296) (w : World) :
    Calls Try.prog 82 #[.agg (bv key).toArray, .agg (bv nonce).toArray, .int .u32 (ctr : Int)] w fun e w' => e = .returned (.agg (bv (blockL key nonce ctr)).toArray) ∧ Below w.heap.size w w' := by
  have HK := Lib.hid hk
  have HN := Lib.hid hn
  clear hk hn
  go_enter Try.func82, Try.ntmps82
  go_wp2_with fail
  obtain ⟨h3, h4, h6, h7, hz, hB⟩ := alloc4 w (bv key).toArray 48 (bv nonce).toArray 30 (bv (List.replicate 64 0)).toArray 92 (wv (initA key 0)).toArray 98
  have HZ := Lib.hid hz
  clear hz
  go_loopw [14] (fun s14 wr => ∃ i : Nat, i ≤ 8 ∧ s14 = .int .i64 (i : Int) ∧ Row wr (w.heap.size + 3) (wv (initA key i)).toArray 98 ∧ Row wr w.heap.size (bv key).toArray 48 ∧ Row wr (w.heap.size + 1) (bv nonce).toArray 30 ∧ Row wr (w.heap.size + 2) (bv (List.replicate 64 0)).toArray 92 ∧ Below w.heap.size w wr) (fun i _ => (8 - intOf i).toNat)
  case atStart => exact ⟨0, by omega, rfl, h7, h3, h4, h6, hB⟩
  case round =>
    clear h7 h3 h4 h6 hB HZ
    obtain ⟨i, hi, rfl, h7, h3, h4, h6, hB⟩ := hrel
    by_cases hlt : i < 8
    · have hRd := row_part h3 (4 * i) 4 (by rw [HK.out]; omega)
      have hw8 : leN (((key.drop (4 * i)).take 4).take 8) = leN ((key.drop (4 * i)).take 4) := by rw [List.take_of_length_le (l := (key.drop (4 * i)).take 4) (by rw [List.length_take]; omega)]
      have HW := Lib.hid hw8
      clear hw8
      have hst := initA_step key hlt
      have hln := initA_length key (i := i) (by omega)
      obtain ⟨w0, w1⟩ := wordAt_range key i
      have hwa : ((leN ((key.drop (4 * i)).take 4) : Nat) : Int) = wordAt key i := rfl
      have HWA := Lib.hid hwa
      have HST := Lib.hid hst
      have HLN := Lib.hid hln
      clear hst hln hwa
      generalize wordAt key i = wd at *
      have hsl := slice_arr (P := Try.prog) (t := 48) Try.underlying48 (by kernel_rfl) w.heap.size (4 * (i : Int)) (4 * (i : Int) + 4) (4 * i) (4 * i + 4) (by omega) (by omega) (by omega) (by omega) (by omega)
      rw [show 4 * i + 4 - 4 * i = 4 by omega] at hsl
      go_wp2_with (first | (go_at_call 75; refine (c_leGet _ _ _ ((key.drop (4*i)).take 4) _ hRd (by decide)).mono ?_; rintro e w' ⟨rfl, rfl⟩; rw [HW.out, HWA.out]) | (apply wpl_storeY'; rfl; rfl; rfl; (focus (go_simp; try rfl)); kernel_rfl; rfl; rfl; exact h7; (simp only [List.size_toArray, wv_length, HLN.out]; omega); intro W1 hW1; simp only [Act.put]))
      have hrow := hW1.row
      rw [wv_set, HST.out] at hrow
      go_roundw
      case rel => exact ⟨i + 1, by omega, by go_num, hrow, h3.upd hW1 (by omega), h4.upd hW1 (by omega), h6.upd hW1 (by omega), hB.trans (hW1.below (by omega))⟩
      case measure => simp [intOf]; omega
    · obtain rfl : i = 8 := by omega
      simp only [show ((8 : Nat) : Int) = 8 from rfl]
      have hln := initA_length key (i := 8) (by omega)
      have HLN := Lib.hid hln
      clear hln
      go_wp2_with (apply wpl_storeY'; rfl; rfl; rfl; (focus (go_simp; try rfl)); kernel_rfl; rfl; rfl; exact h7; (simp only [List.size_toArray, wv_length, HLN.out]; omega); intro W1 hW1; simp only [Act.put])
      have k7 := hW1.row
      rw [wv_set, initA_last key nonce ctr] at k7
      have k3 := h3.upd hW1 (by omega)
      have k4 := h4.upd hW1 (by omega)
      have k6 := h6.upd hW1 (by omega)
      have kB := hB.trans (hW1.below (by omega))
      clear h7 h3 h4 h6 hB hW1 HLN
      go_loopw [31] (fun s31 wr => ∃ i : Nat, i ≤ 3 ∧ s31 = .int .i64 (i : Int) ∧ Row wr (w.heap.size + 3) (wv (initB key nonce ctr i)).toArray 98 ∧ Row wr (w.heap.size + 1) (bv nonce).toArray 30 ∧ Row wr (w.heap.size + 2) (bv (List.replicate 64 0)).toArray 92 ∧ Below w.heap.size w wr) (fun i _ => (3 - intOf i).toNat)
      case atStart => exact ⟨0, by omega, rfl, k7, k4, k6, kB⟩
      case round =>
        clear k7 k3 k4 k6 kB
        obtain ⟨i, hi, rfl, h7, h4, h6, hB⟩ := hrel
        by_cases hlt : i < 3
        · have hRd := row_part h4 (4 * i) 4 (by rw [HN.out]; omega)
          have hw8 : leN (((nonce.drop (4 * i)).take 4).take 8) = leN ((nonce.drop (4 * i)).take 4) := by rw [List.take_of_length_le (l := (nonce.drop (4 * i)).take 4) (by rw [List.length_take]; omega)]
          have HW := Lib.hid hw8
          clear hw8
          have hst := initB_step key nonce ctr hlt
          have hln := initB_length key nonce ctr (i := i) (by omega)
          obtain ⟨w0, w1⟩ := wordAt_range nonce i
          have hwa : ((leN ((nonce.drop (4 * i)).take 4) : Nat) : Int) = wordAt nonce i := rfl
          have HWA := Lib.hid hwa
          have HST := Lib.hid hst
          have HLN := Lib.hid hln
          clear hst hln hwa
          generalize wordAt nonce i = wd at *
          have hsl := slice_arr (P := Try.prog) (t := 30) Try.underlying30 (by kernel_rfl) (w.heap.size + 1) (4 * (i : Int)) (4 * (i : Int) + 4) (4 * i) (4 * i + 4) (by omega) (by omega) (by omega) (by omega) (by omega)
          rw [show 4 * i + 4 - 4 * i = 4 by omega] at hsl
          go_wp2_with (first | (go_at_call 75; refine (c_leGet _ _ _ ((nonce.drop (4*i)).take 4) _ hRd (by decide)).mono ?_; rintro e w' ⟨rfl, rfl⟩; rw [HW.out, HWA.out]) | (apply wpl_storeY'; rfl; rfl; rfl; (focus (go_simp; try rfl)); kernel_rfl; rfl; rfl; exact h7; (simp only [List.size_toArray, wv_length, HLN.out]; omega); intro W1 hW1; simp only [Act.put]))
          have hrow := hW1.row
          rw [wv_set, HST.out] at hrow
          go_roundw
          case rel => exact ⟨i + 1, by omega, by go_num, hrow, h4.upd hW1 (by omega), h6.upd hW1 (by omega), hB.trans (hW1.below (by omega))⟩
          case measure => simp [intOf]; omega
        · obtain rfl : i = 3 := by omega
          simp only [show ((3 : Nat) : Int) = 3 from rfl]
          have hln := initB_length key nonce ctr (i := 3) (by omega)
          rw [initB_last] at h7 hln
          have HOE : IsBlk _ _ := ⟨outP_end key nonce ctr⟩
          have HBK : IsB key nonce ctr (blockL key nonce ctr) := ⟨rfl⟩
          generalize blockL key nonce ctr = BL at *
          generalize initW key nonce ctr = S at *
          have HLN := Lib.hid hln
          clear hln
          have hall := wv_all S
          go_upto_region 14 with (first | (apply wpl_loadS (ty := 98); rfl; rfl; rfl; kernel_rfl; exact h7; (simp only [List.size_toArray, wv_length, HLN.out]; kernel_rfl); simp only [Act.put, List.setIfInBounds_toArray, List.set_cons_zero, List.set_cons_succ]) | (apply wpl_storeN; rfl; rfl; rfl; (first | rfl | simp); rfl; (simp only [List.size_toArray, wv_length, HLN.out]; kernel_rfl); (simp only [List.size_toArray, wv_length, HLN.out]; rfl); exact hall; simp only [Act.put]))
          have g7 := h7.alloc (.cells (wv S).toArray 98)
          have g6 := h6.alloc (.cells (wv S).toArray 98)
          have g10 := Row.new wr (wv S).toArray 98
          have hz := h7.lt
          have gB := hB.trans (belowB_alloc (B := w.heap.size) (w := wr) (by omega) (.cells (wv S).toArray 98))
          generalize wr.alloc (.cells (wv S).toArray 98) = w2 at *
          generalize wr.heap.size = d10 at *
          clear h7 h4 h6 hB
          go_wp2_with fail
          go_loopw [47] (fun s47 wr => ∃ k : Nat, k ≤ 10 ∧ s47 = .int .i64 (k : Int) ∧ Row wr (w.heap.size + 3) (wv S).toArray 98 ∧ Row wr d10 (wv (doubles S k)).toArray 98 ∧ Row wr (w.heap.size + 2) (bv (List.replicate 64 0)).toArray 92 ∧ Below w.heap.size w wr) (fun i _ => (10 - intOf i).toNat)
          case atStart => exact ⟨0, by omega, rfl, g7, g10, g6, gB⟩
          case round =>
            clear g7 g10 g6 gB
            obtain ⟨k, hk, rfl, h7, h10, h6, hB⟩ := hrel
            have hdl : (doubles S k).length = 16 := by rw [doubles_length, HLN.out]
            have HDL := Lib.hid hdl
            clear hdl
            by_cases hlt : k < 10
            · have hdn : (doubles S (k + 1)).length = 16 := by rw [doubles_length, HLN.out]
              have HDN := Lib.hid hdn
              have HDS : IsDbl (doubles S k) (doubles S (k + 1)) := ⟨rfl⟩
              clear hdn
              have hal2 := wv_all (doubles S (k + 1))
              have HE : IsD S (k + 1) (doubles S (k + 1)) := ⟨rfl⟩
              generalize doubles S (k + 1) = Dn at *
              generalize doubles S k = Dk at *
              go_upto_region 17 with (first | (apply wpl_loadS (ty := 98); rfl; rfl; rfl; kernel_rfl; exact h10; (simp only [List.size_toArray, wv_length, HDL.out]; kernel_rfl); simp only [Act.put, List.setIfInBounds_toArray, List.set_cons_zero, List.set_cons_succ]) | (go_at_call 86; refine (c_double Dk HDL.out _).mono ?_; rintro e w3 ⟨rfl, hb3⟩; rw [HDS.out]) | (apply wpl_storeX (cells := (wv Dn).toArray); rfl; rfl; rfl; rfl; exact h10.below hb3 h10.lt; (simp only [List.size_toArray, wv_length, HDN.out]; kernel_rfl); (simp only [List.size_toArray, wv_length, HDL.out, HDN.out]); exact hal2; intro W6 hW6; simp only [Act.put]))
              have k10 := hW6.row
              have k7 := (h7.below hb3 h7.lt).upd hW6 (by omega)
              have k6 := (h6.below hb3 h6.lt).upd hW6 (by omega)
              have l10 := h10.lt
              have kB := hB.trans ((hb3.mono (by omega)).trans (hW6.below (by omega)))
              clear h10 h7 h6 hB hb3 hW6
              go_wp2
              rw [← HE.out] at k10
              go_roundw
              case rel => exact ⟨k + 1, by omega, by go_num, k7, k10, k6, kB⟩
              case measure => simp [intOf]; omega
            · obtain rfl : k = 10 := by omega
              simp only [show ((10 : Nat) : Int) = 10 from rfl]
              have HE10 : IsD S 10 (doubles S 10) := ⟨rfl⟩
              generalize doubles S 10 = D at *
              go_wp2_with fail
              have g11 := Row.new wr (bv (outP S D 0)).toArray 92
              have g7 := h7.alloc (.cells (bv (outP S D 0)).toArray 92)
              have g10 := h10.alloc (.cells (bv (outP S D 0)).toArray 92)
              have g6 := h6.alloc (.cells (bv (outP S D 0)).toArray 92)
              have l10 := h10.lt
              have l7 := h7.lt
              have gB := hB.trans (belowB_alloc (B := w.heap.size) (w := wr) (by omega) (.cells (bv (outP S D 0)).toArray 92))
              generalize wr.heap.size = gO at *
              go_loopw [52] (fun s52 wq => ∃ i : Nat, i ≤ 16 ∧ s52 = .int .i64 (i : Int) ∧ Row wq (w.heap.size + 3) (wv S).toArray 98 ∧ Row wq d10 (wv D).toArray 98 ∧ Row wq gO (bv (outP S D i)).toArray 92 ∧ Row wq (w.heap.size + 2) (bv (List.replicate 64 0)).toArray 92 ∧ Below w.heap.size w wq) (fun i _ => (16 - intOf i).toNat)
              case atStart => exact ⟨0, by omega, rfl, g7, g10, g11, g6, gB⟩
              case round =>
                clear g7 g10 g11 g6 gB h7 h10 h6 hB
                obtain ⟨i, hi, rfl, h7, h10, h11, h6, hB⟩ := hrel
                by_cases hlt : i < 16
                · go_upto_region 22 with fail
                  have hN : (S.getD i 0 + D.getD i 0) % 4294967296 = (((addW (S.getD i 0) (D.getD i 0)).toNat : Nat) : Int) := by unfold addW; omega
                  have hNl : (addW (S.getD i 0) (D.getD i 0)).toNat < 4294967296 := by unfold addW; omega
                  have hwb : leP (addW (S.getD i 0) (D.getD i 0)).toNat 4 = wbytes S D i := rfl
                  have HWB := Lib.hid hwb
                  have cS := wv_cell h7 (j := i) (by rw [HLN.out]; exact hlt)
                  have cD := wv_cell h10 (j := i) (by rw [HDL.out]; exact hlt)
                  clear hwb
                  generalize (addW (S.getD i 0) (D.getD i 0)).toNat = N at *
                  generalize S.getD i 0 = x at *
                  generalize D.getD i 0 = y at *
                  have hsl := slice_arr_from (P := Try.prog) (t := 92) Try.underlying92 (by kernel_rfl) gO (4 * (i : Int)) (4 * i) (by omega) (by omega)
                  have b7 := h7.lt
                  have b10 := h10.lt
                  have hlt2 : (i : Int) < 16 := by omega
                  have hqm : 4 + 4 * i ≤ 64 := by omega
                  have hol := outP_length S D hi
                  have hst := outP_step S D hlt
                  have HOL := Lib.hid hol
                  have HST := Lib.hid hst
                  clear hol hst
                  have hw4 : IntKind.i64.wrap (4 * (i : Int)) = 4 * (i : Int) := IntWalk.i64_in _ (by omega)
                  have hw6 : IntKind.u64.wrap (N : Int) = (N : Int) := IntWalk.u64_in _ ⟨by omega, by omega⟩
                  have hw5 : IntKind.u32.wrap (x + y) = (N : Int) := hN
                  have h11d : Row wr.drew gO _ _ := h11
                  have hyl := wbytes_length S D i
                  have HYL := Lib.hid hyl
                  clear hyl
                  have HO1 : IsOut S D (i + 1) (outP S D (i + 1)) := ⟨rfl⟩
                  generalize outP S D (i + 1) = P1 at *
                  generalize outP S D i = P0 at *
                  generalize wbytes S D i = Y at *
                  (refine wp_region_linN (Below wr.heap.size) (Below wr.heap.size) (wayB _) (wayB _) (fun _ _ h => h) (.free 0 (.free 1 (.free 2 (.free 3 (.free 4 (.hot 5 (.free 6 (.free 7 (.hot 8 (.free 9 (.hot 10 (.op 11 [(10, 11), (9, 10), (5, 9), (8, 9)] [] [] (.op 12 [] [] [] .nil))))))))))))) rfl (by kernel_rfl) (by kernel_rfl) (fun _ _ _ _ _ h => h) ?_; (first | (apply linN_free; (simp only [List.getElem?_toArray, List.getElem?_cons_succ, List.getElem?_cons_zero]; rfl); (rfl); (intro w'; (first | (go_simp; done) | (go_simp; with_reducible rfl) | (go_simp; go_bits; with_reducible rfl) | (go_simp; go_bits; done))); try simp only [Act.put, List.setIfInBounds_toArray, List.set_cons_zero, List.set_cons_succ]) | (apply linN_freeSkip; (simp only [List.getElem?_toArray, List.getElem?_cons_succ, List.getElem?_cons_zero]; rfl); (rfl); try simp only [Act.put, List.setIfInBounds_toArray, List.set_cons_zero, List.set_cons_succ])); (first | (apply linN_free; (simp only [List.getElem?_toArray, List.getElem?_cons_succ, List.getElem?_cons_zero]; rfl); (rfl); (intro w'; (first | (go_simp; done) | (go_simp; with_reducible rfl) | (go_simp; go_bits; with_reducible rfl) | (go_simp; go_bits; done))); try simp only [Act.put, List.setIfInBounds_toArray, List.set_cons_zero, List.set_cons_succ]) | (apply linN_freeSkip; (simp only [List.getElem?_toArray, List.getElem?_cons_succ, List.getElem?_cons_zero]; rfl); (rfl); try simp only [Act.put, List.setIfInBounds_toArray, List.set_cons_zero, List.set_cons_succ])); (first | (apply linN_free; (simp only [List.getElem?_toArray, List.getElem?_cons_succ, List.getElem?_cons_zero]; rfl); (rfl); (intro w'; (first | (go_simp; done) | (go_simp; with_reducible rfl) | (go_simp; go_bits; with_reducible rfl) | (go_simp; go_bits; done))); try simp only [Act.put, List.setIfInBounds_toArray, List.set_cons_zero, List.set_cons_succ]) | (apply linN_freeSkip; (simp only [List.getElem?_toArray, List.getElem?_cons_succ, List.getElem?_cons_zero]; rfl); (rfl); try simp only [Act.put, List.setIfInBounds_toArray, List.set_cons_zero, List.set_cons_succ])); (first | (apply linN_free; (simp only [List.getElem?_toArray, List.getElem?_cons_succ, List.getElem?_cons_zero]; rfl); (rfl); (intro w'; (first | (go_simp; done) | (go_simp; with_reducible rfl) | (go_simp; go_bits; with_reducible rfl) | (go_simp; go_bits; done))); try simp only [Act.put, List.setIfInBounds_toArray, List.set_cons_zero, List.set_cons_succ]) | (apply linN_freeSkip; (simp only [List.getElem?_toArray, List.getElem?_cons_succ, List.getElem?_cons_zero]; rfl); (rfl); try simp only [Act.put, List.setIfInBounds_toArray, List.set_cons_zero, List.set_cons_succ])); (first | (apply linN_free; (simp only [List.getElem?_toArray, List.getElem?_cons_succ, List.getElem?_cons_zero]; rfl); (rfl); (intro w'; (first | (go_simp; done) | (go_simp; with_reducible rfl) | (go_simp; go_bits; with_reducible rfl) | (go_simp; go_bits; done))); try simp only [Act.put, List.setIfInBounds_toArray, List.set_cons_zero, List.set_cons_succ]) | (apply linN_freeSkip; (simp only [List.getElem?_toArray, List.getElem?_cons_succ, List.getElem?_cons_zero]; rfl); (rfl); try simp only [Act.put, List.setIfInBounds_toArray, List.set_cons_zero, List.set_cons_succ])); (first | (apply linN_hot; (simp only [List.getElem?_toArray, List.getElem?_cons_succ, List.getElem?_cons_zero]; rfl); (rfl); (intro w' hb'; (try have k_cS := keepB (by first | assumption | omega | (simp; done) | (simp; omega)) hb' cS); (try have k_cD := keepB (by first | assumption | omega | (simp; done) | (simp; omega)) hb' cD); (first | (go_simp; done) | (go_simp; with_reducible rfl) | (go_simp; go_bits; with_reducible rfl) | (go_simp; go_bits; done))); try simp only [Act.put, List.setIfInBounds_toArray, List.set_cons_zero, List.set_cons_succ]) | (apply linN_hotSkip; (simp only [List.getElem?_toArray, List.getElem?_cons_succ, List.getElem?_cons_zero]; rfl); (rfl); try simp only [Act.put, List.setIfInBounds_toArray, List.set_cons_zero, List.set_cons_succ])); (first | (apply linN_free; (simp only [List.getElem?_toArray, List.getElem?_cons_succ, List.getElem?_cons_zero]; rfl); (rfl); (intro w'; (first | (go_simp; done) | (go_simp; with_reducible rfl) | (go_simp; go_bits; with_reducible rfl) | (go_simp; go_bits; done))); try simp only [Act.put, List.setIfInBounds_toArray, List.set_cons_zero, List.set_cons_succ]) | (apply linN_freeSkip; (simp only [List.getElem?_toArray, List.getElem?_cons_succ, List.getElem?_cons_zero]; rfl); (rfl); try simp only [Act.put, List.setIfInBounds_toArray, List.set_cons_zero, List.set_cons_succ])); (first | (apply linN_free; (simp only [List.getElem?_toArray, List.getElem?_cons_succ, List.getElem?_cons_zero]; rfl); (rfl); (intro w'; (first | (go_simp; done) | (go_simp; with_reducible rfl) | (go_simp; go_bits; with_reducible rfl) | (go_simp; go_bits; done))); try simp only [Act.put, List.setIfInBounds_toArray, List.set_cons_zero, List.set_cons_succ]) | (apply linN_freeSkip; (simp only [List.getElem?_toArray, List.getElem?_cons_succ, List.getElem?_cons_zero]; rfl); (rfl); try simp only [Act.put, List.setIfInBounds_toArray, List.set_cons_zero, List.set_cons_succ])); (first | (apply linN_hot; (simp only [List.getElem?_toArray, List.getElem?_cons_succ, List.getElem?_cons_zero]; rfl); (rfl); (intro w' hb'; (try have k_cS := keepB (by first | assumption | omega | (simp; done) | (simp; omega)) hb' cS); (try have k_cD := keepB (by first | assumption | omega | (simp; done) | (simp; omega)) hb' cD); (first | (go_simp; done) | (go_simp; with_reducible rfl) | (go_simp; go_bits; with_reducible rfl) | (go_simp; go_bits; done))); try simp only [Act.put, List.setIfInBounds_toArray, List.set_cons_zero, List.set_cons_succ]) | (apply linN_hotSkip; (simp only [List.getElem?_toArray, List.getElem?_cons_succ, List.getElem?_cons_zero]; rfl); (rfl); try simp only [Act.put, List.setIfInBounds_toArray, List.set_cons_zero, List.set_cons_succ])); (first | (apply linN_free; (simp only [List.getElem?_toArray, List.getElem?_cons_succ, List.getElem?_cons_zero]; rfl); (rfl); (intro w'; (first | (go_simp; done) | (go_simp; with_reducible rfl) | (go_simp; go_bits; with_reducible rfl) | (go_simp; go_bits; done))); try simp only [Act.put, List.setIfInBounds_toArray, List.set_cons_zero, List.set_cons_succ]) | (apply linN_freeSkip; (simp only [List.getElem?_toArray, List.getElem?_cons_succ, List.getElem?_cons_zero]; rfl); (rfl); try simp only [Act.put, List.setIfInBounds_toArray, List.set_cons_zero, List.set_cons_succ])); (first | (apply linN_hot; (simp only [List.getElem?_toArray, List.getElem?_cons_succ, List.getElem?_cons_zero]; rfl); (rfl); (intro w' hb'; (try have k_cS := keepB (by first | assumption | omega | (simp; done) | (simp; omega)) hb' cS); (try have k_cD := keepB (by first | assumption | omega | (simp; done) | (simp; omega)) hb' cD); (first | (go_simp; done) | (go_simp; with_reducible rfl) | (go_simp; go_bits; with_reducible rfl) | (go_simp; go_bits; done))); try simp only [Act.put, List.setIfInBounds_toArray, List.set_cons_zero, List.set_cons_succ]) | (apply linN_hotSkip; (simp only [List.getElem?_toArray, List.getElem?_cons_succ, List.getElem?_cons_zero]; rfl); (rfl); try simp only [Act.put, List.setIfInBounds_toArray, List.set_cons_zero, List.set_cons_succ])); (first | (apply linN_pass (wayB _) (wayB _); (simp only [List.getElem?_toArray, List.getElem?_cons_succ, List.getElem?_cons_zero]; rfl); (rfl); try simp only [Act.put, List.setIfInBounds_toArray, List.set_cons_zero, List.set_cons_succ]) | (apply linN_op; (simp only [List.getElem?_toArray, List.getElem?_cons_succ, List.getElem?_cons_zero]; rfl); (rfl); intro K hK; (first | (refine wp_copyP (g := gO) (off := 4 * i) (n := 64 - 4 * i) (m := 4) (T := 92) (cur := (bv P0).toArray) (ys := Y) rfl (by first | rfl | (go_simp; rfl)) (by first | rfl | (go_simp; rfl)) R11 hq5 (by rw [List.size_toArray, bv_length, HOL.out]; omega) ?_; intro W2 y2 hu2) | (go_simp; (first | (go_at_call 70; refine (c_lePut N 4 _ (by decide)).mono ?_; rintro e w5 ⟨v5, rfl, ho5, hb5⟩; obtain ⟨A5, ca5, rfl, lc5, -, hq5⟩ := ho5.form; rw [leP_length] at hq5 lc5; rw [HWB.out] at hq5; simp only [leP_length]; have R11 := h11d.below hb5 h11.lt) | skip))); refine hK _ _ ?_ ?_; (exact trivial); clear hK; try simp only [Act.put, List.setIfInBounds_toArray, List.set_cons_zero, List.set_cons_succ])); (first | (apply linN_pass (wayB _) (wayB _); (simp only [List.getElem?_toArray, List.getElem?_cons_succ, List.getElem?_cons_zero]; rfl); (rfl); try simp only [Act.put, List.setIfInBounds_toArray, List.set_cons_zero, List.set_cons_succ]) | (apply linN_op; (simp only [List.getElem?_toArray, List.getElem?_cons_succ, List.getElem?_cons_zero]; rfl); (rfl); intro K hK; (first | (refine wp_copyP (g := gO) (off := 4 * i) (n := 64 - 4 * i) (m := 4) (T := 92) (cur := (bv P0).toArray) (ys := Y) rfl (by first | rfl | (go_simp; rfl)) (by first | rfl | (go_simp; rfl)) R11 hq5 (by rw [List.size_toArray, bv_length, HOL.out]; omega) ?_; intro W2 y2 hu2) | (go_simp; (first | (go_at_call 70; refine (c_lePut N 4 _ (by decide)).mono ?_; rintro e w5 ⟨v5, rfl, ho5, hb5⟩; obtain ⟨A5, ca5, rfl, lc5, -, hq5⟩ := ho5.form; rw [leP_length] at hq5 lc5; rw [HWB.out] at hq5; simp only [leP_length]; have R11 := h11d.below hb5 h11.lt) | skip))); refine hK _ _ ?_ ?_; (exact trivial); clear hK; try simp only [Act.put, List.setIfInBounds_toArray, List.set_cons_zero, List.set_cons_succ])); refine linN_end ?_)
                  have hrow := hu2.row
                  rw [show min 4 (64 - 4 * i) = 4 by omega, List.toList_toArray, ← bv_take, ← bv_take, ← bv_drop, List.take_of_length_le (l := Y) (by rw [HYL.out]; omega), ← bv_append, ← bv_append, HST.out, ← HO1.out] at hrow
                  have k7 : Row wr.drew (w.heap.size + 3) _ _ := h7
                  have k10 : Row wr.drew d10 _ _ := h10
                  have k6 : Row wr.drew (w.heap.size + 2) _ _ := h6
                  have q7 := (k7.below hb5 h7.lt).upd hu2 (by omega)
                  have q10 := (k10.below hb5 h10.lt).upd hu2 (by omega)
                  have q6 := (k6.below hb5 h6.lt).upd hu2 (by omega)
                  have hsb : w.heap.size ≤ wr.drew.heap.size := by show _ ≤ wr.heap.size; omega
                  have qB := (below_drew hB).trans ((hb5.mono hsb).trans (hu2.below (by omega)))
                  clear h7 h10 h11 h6 hB hsl cS cD hN hw4 hw5 hw6 hu2 hb5 ho5 hq5 R11 h11d k7 k10 k6
                  go_wp2
                  go_roundw
                  case rel => exact ⟨i + 1, by omega, by go_num, q7, q10, hrow, q6, qB⟩
                  case measure => simp [intOf]; omega
                · obtain rfl : i = 16 := by omega
                  rw [← HE10.out, HOE.out] at h11
                  have hbl : BL.length = 64 := by rw [← HOE.out, outP_length _ _ (Nat.le_refl _)]
                  have HBL := Lib.hid hbl
                  clear hbl
                  have hba := bv_all BL
                  go_wp2_with (first | (apply wpl_loadS (ty := 92); rfl; rfl; rfl; kernel_rfl; exact h11; (simp only [List.size_toArray, bv_length, HBL.out]; kernel_rfl); simp only [Act.put, List.setIfInBounds_toArray, List.set_cons_zero, List.set_cons_succ]) | (apply wpl_storeX; rfl; rfl; rfl; rfl; exact h6; (simp only [List.size_toArray, bv_length, HBL.out]; kernel_rfl); (simp only [List.size_toArray, bv_length, HBL.out]; rfl); exact hba; intro W6 hW6; simp only [Act.put]))
                  refine bodyPost_ret (results_cell1 rfl rfl (run_loadRow _ _ _ _ _ 0 hW6.row (by simp only [List.size_toArray, bv_length, HBL.out]; kernel_rfl) (by kernel_rfl))) rfl ⟨by rw [HBK.out], hB.trans (hW6.below (by omega))⟩
end Go.Proofs.Ytlbpmboknmbcgaa
