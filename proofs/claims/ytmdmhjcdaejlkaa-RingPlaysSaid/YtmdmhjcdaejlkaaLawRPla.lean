/- The walk of RingPlays. -/
import Derived.Test.YtmdmhjcdaejlkaaHaveM
import Derived.Test.YtmdmhjcdaejlkaaMatS
import Derived.Test.YtmdmhjcdaejlkaaRow
import Derived.Test.YtmdmhjcdaejlkaaBlank10
set_option linter.unusedVariables false
set_option linter.unusedSimpArgs false
namespace Go.Proofs.Ytmdmhjcdaejlkaa
open Go.RowKit

def uvR (xs : List Nat) : List Value := xs.map fun n : Nat => Value.int .u64 (n : Int)
theorem row_u64R {w : World} {a : Option Addr} {len cap : Nat} {zs : List Int} (h : IsRow .u64 w a len cap zs) : ∃ xs : List Nat, Rd w a len (uvR xs) ∧ xs.length = len ∧ ∀ x ∈ xs, x < 18446744073709551616 := by
  rcases h with ⟨rfl, rfl, rfl, rfl⟩ | ⟨x, rfl, hl, hm, hz, hc, hw⟩
  · exact ⟨[], Rd.nil_ _ _, rfl, fun x hx => by cases hx⟩
  · have hp : ∀ z ∈ zs, 0 ≤ z ∧ z ≤ 18446744073709551615 := fun z hz => by simpa [Lit.wf, IntKind.min, IntKind.max, IntKind.signed, IntKind.bits] using hw z hz
    refine ⟨(zs.take len).map Int.toNat, ⟨by simp [uvR]; omega, fun _ => ⟨x, rfl, fun j v hv => ?_⟩⟩, by simp; omega, fun y hy => ?_⟩
    · unfold uvR at hv
      rw [List.getElem?_map, List.getElem?_map, List.getElem?_take] at hv
      split at hv
      · rename_i hj
        have hj' : j < zs.length := by omega
        rw [hc j hj']
        rw [List.getElem?_eq_getElem hj'] at hv
        simp only [Option.map_some, Option.some.injEq] at hv
        have := hp zs[j] (List.getElem_mem hj')
        rw [← hv, List.getD_eq_getElem?_getD, List.getElem?_eq_getElem hj', Option.getD_some, Int.toNat_of_nonneg this.1]
      · cases hv
    · obtain ⟨z, hz, rfl⟩ := List.mem_map.1 hy
      have := hp z (List.mem_of_mem_take hz)
      omega
/-- an epoch of a number and a place: what the law makes -/
theorem ep_of (x i : Nat) (hx : x < 18446744073709551616) (hi : i < 16) : ∃ e : Nat, bits .or .u64 (IntKind.u64.wrap ((x : Int) * 16)) (i : Int) = (e : Int) ∧ e < 18446744073709551616 ∧ e % 16 = i := by
  have h1 : IntKind.u64.wrap ((x : Int) * 16) = ((x % 1152921504606846976 * 16 : Nat) : Int) := by
    rw [IntKind.wrap_u64]
    omega
  rw [h1, u64_or_nat _ _ (by omega) (by omega)]
  rw [nat_join 4 (x % 1152921504606846976 * 16) i (by omega) (by omega)]
  exact ⟨_, rfl, by omega, by omega⟩
set_option maxHeartbeats 1000000 in
theorem c_l10b (key : List UInt8) (hk : key.length = 32) (bo : Bool) (hbo : (openL key (List.replicate 80 0)).isSome = bo) (W : World) :
    Calls Try.prog 42 #[.agg (bv key).toArray] W fun e w' => e = .returned (.bool bo) ∧ Below W.heap.size W w' := by
  have HK := Lib.hid hk
  have r1 := Row.new W (bv key).toArray 22
  have hB0 := below_alloc (Below.refl W.heap.size W) (.cells (bv key).toArray 22)
  go_enter Try.func42, Try.ntmps42
  go_upto_region 1 with fail
  generalize W.alloc (.cells (bv key).toArray 22) = w1 at *
  have HBK := Lib.hid (c_blank10 key hk 80 (by decide) 80 rfl bo hbo w1)
  clear hbo hk
  go_wp2_with (first | (first | (apply wpl_loadS (ty := 22); rfl; rfl; rfl; kernel_rfl; exact r1; (simp only [List.size_toArray, bv_length, HK.out]; kernel_rfl); simp only [Act.put, List.setIfInBounds_toArray, List.set_cons_zero, List.set_cons_succ])) | (go_at_call 30; (with_reducible refine HBK.out.mono ?_); rintro e w3 ⟨rfl, hb3⟩))
  go_ret
  exact ⟨rfl, below_two hB0 hb3⟩
set_option maxHeartbeats 16000000 in
set_option maxRecDepth 100000 in
theorem w_rpla0 (key : List UInt8) (hk : key.length = 32) (x0 : Int) (A2 A3 : Option Addr) (l2 c2 l3 c3 : Nat) (es : List Nat) (xss : List (List UInt8)) (w : World) (hR : Rd w A2 l2 (uvR es)) (hel : es.length = l2) (hes : ∀ x ∈ es, x < 18446744073709551616) (hM : Mat w A3 l3 xss) (hl3 : l3 ≤ 9223372036854775807) (hX : ∀ xs ∈ xss, xs.length ≤ 140737488351232) :
    Calls Try.prog 9 #[.agg (bv key).toArray, .int .i64 x0, .slice A2 l2 c2, .slice A3 l3 c3] w fun e w' => e = .returned (.bool true) ∧ Below w.heap.size w w' := by
  have HK := Lib.hid hk
  have HM := Lib.hid hM
  have HX := Lib.hid hX
  have HES := Lib.hid hes
  have HL3 := Lib.hid hl3
  have HEL := Lib.hid hel
  have hm3 := m3 x0
  obtain ⟨s3, hs3⟩ : ∃ s3 : Nat, x0 % 4 = (s3 : Int) := ⟨(x0 % 4).toNat, by omega⟩
  have hs4 : s3 ≤ 3 := by omega
  rw [hs3] at hm3
  obtain ⟨sz, hsz⟩ : ∃ sz, s3 + 1 = sz := ⟨_, rfl⟩
  have hszi : (s3 : Int) + 1 = (sz : Int) := by omega
  have hszw : IntKind.i64.wrap (sz : Int) = (sz : Int) := IntWalk.i64_in _ (by omega)
  have hsz1 : 1 ≤ sz := by omega
  have hsz4 : sz ≤ 4 := by omega
  have r0 := Row.new w (bv key).toArray 22
  have hB0 := below_alloc (Below.refl w.heap.size w) (.cells (bv key).toArray 22)
  have hlB : w.heap.size < (w.alloc (.cells (bv key).toArray 22)).heap.size := by simp
  clear hk hM hX hes hel hs3 hsz hl3
  go_enter Try.func9, Try.ntmps9
  go_upto_region 2 with fail
  generalize w.alloc (.cells (bv key).toArray 22) = w0 at *
  generalize hBs : w0.heap.size = bs at *
  have HNW := Lib.hid (i_new 8 80 w0 (by decide) (by decide))
  rw [hBs] at HNW
  clear hBs
  go_upto_region 3 with (go_at_call 17; (with_reducible refine HNW.out.mono ?_); rintro e w1 ⟨b, rfl, hI, hb1⟩)
  have r1 := r0.below hb1 (by omega)
  have hB1 := hB0.trans (hb1.mono (Nat.le_of_lt hlB))
  have hn1 := p_new b key HK.out 1 (by decide) w1
  simp only [show ((1 : Nat) : Int) = 1 from rfl] at hn1
  have HN1 := Lib.hid hn1
  clear hn1 HNW hb1 r0 hB0
  go_upto_region 4 with (first | (first | (apply wpl_loadS (ty := 22); rfl; rfl; rfl; kernel_rfl; exact r1; (simp only [List.size_toArray, bv_length, HK.out]; kernel_rfl); simp only [Act.put, List.setIfInBounds_toArray, List.set_cons_zero, List.set_cons_succ])) | (go_at_call 18; (with_reducible refine HN1.out.mono ?_); rintro e w2 ⟨g, rfl, hP, hg, hb2⟩))
  have hgb : bs ≤ g := Nat.le_trans hI.le hg
  have hI2 := hI.below hb2
  have r2 := r1.below hb2 r1.lt
  have hB2 := below_two hB1 hb2
  clear HN1 hI r1 hB1 hb2 hg
  go_upto_region 7 with (go_at_call 35; (with_reducible refine (c_rNew g 2 sz 2 (sz : Int) rfl rfl w2).mono ?_); rintro e w3 ⟨r, rfl, hRg, hr, hb3⟩)
  have hI3 := hI2.below hb3
  have hP3 := hP.below hb3 hP.lt
  have r3 := r2.below hb3 r2.lt
  have hrb : bs ≤ r := Nat.le_trans hI2.le hr
  have hrg : r ≠ g := by have := hP.lt; omega
  have hB3 := below_two hB2 hb3
  clear hb3 hr hI2 hP hB2 r2
  obtain ⟨bo, hbo⟩ : ∃ bo, (openL key (List.replicate 80 0)).isSome = bo := ⟨_, rfl⟩
  have HBK := Lib.hid (c_l10b key HK.out bo hbo w3)
  have HBO := Lib.hid hbo
  clear hbo
  cases bo with
  | true =>
    go_upto_region 8 with (first | (first | (apply wpl_loadS (ty := 22); rfl; rfl; rfl; kernel_rfl; exact r3; (simp only [List.size_toArray, bv_length, HK.out]; kernel_rfl); simp only [Act.put, List.setIfInBounds_toArray, List.set_cons_zero, List.set_cons_succ])) | (go_at_call 42; (with_reducible refine HBK.out.mono ?_); rintro e w4 ⟨rfl, hb4⟩))
    have hB4 := below_two hB3 hb4
    clear HBK r3 hI3 hP3 hRg hB3 hb4 HBO
    go_wp2_with (go_at_call 36; (with_reducible refine (c_awake11 _).mono ?_); rintro e w5 ⟨rfl, hb5⟩)
    go_ret
    exact ⟨rfl, below_two hB4 hb5⟩
  | false =>
    have hbn : openL key (List.replicate 80 0) = none := by
      have hbo := HBO.out
      cases h : openL key (List.replicate 80 0) with
      | none => rfl
      | some x => rw [h] at hbo; cases hbo
    have HRQ := Lib.hid (rq_new hbn)
    clear HBO hbn
    go_upto_region 9 with (first | (first | (apply wpl_loadS (ty := 22); rfl; rfl; rfl; kernel_rfl; exact r3; (simp only [List.size_toArray, bv_length, HK.out]; kernel_rfl); simp only [Act.put, List.setIfInBounds_toArray, List.set_cons_zero, List.set_cons_succ])) | (go_at_call 42; (with_reducible refine HBK.out.mono ?_); rintro e w4 ⟨rfl, hb4⟩))
    have hI4 := hI3.below hb4
    have hP4 := hP3.below hb4 hP3.lt
    have hR4 := hRg.below hb4 hRg.lt
    have hB4 := below_two hB3 hb4
    clear HBK r3 hI3 hP3 hRg hB3 hb4
    generalize dkNew 8 80 = D0 at *
    go_wp2_with fail
    go_loopw [12, 13] (fun s12 s13 wr => ∃ (at_ i q ep nr : Nat) (D : Dk), i ≤ 12 ∧ at_ ≤ l3 ∧ q ≤ 17 * i ∧ s12 = .int .i64 (at_ : Int) ∧ s13 = .int .i64 (i : Int) ∧ Rq key D i ∧ In wr bs b D (40 * i) ∧ PenAt wr g b key 1 q ∧ RingAt wr r g 2 sz ep nr ∧ Below w.heap.size w wr) (fun _ s13 _ => (12 - intOf s13).toNat)
    case atStart => exact ⟨0, 0, 0, 0, 0, D0, by omega, by omega, by omega, rfl, rfl, HRQ.out, hI4, hP4, hR4, hB4⟩
    case round =>
      obtain ⟨at_, i, q, ep, nr, D, hi, hat, hq, rfl, rfl, hRq, hIr, hPr, hRr, hBr⟩ := hrel
      clear HRQ hI4 hP4 hR4 hB4
      by_cases hend : (i : Int) < (l2 : Int) ∧ (i : Int) < 12
      · obtain ⟨q0, q1⟩ := hend
        have hil : i < es.length := by rw [HEL.out]; omega
        obtain ⟨ad, hA, hcc⟩ := hR.2 (by omega)
        subst hA
        have hcx := hcc i (.int .u64 ((es[i] : Nat) : Int)) (by unfold uvR; rw [List.getElem?_map, List.getElem?_eq_getElem hil]; rfl)
        have hxl := HES.out es[i] (List.getElem_mem hil)
        generalize es[i] = x at *
        have hadl : (ad.add i).block < w.heap.size := World.block_lt_of_cell? w _ hcx
        have hcxr : wr.cell? (ad.add i) = some (.int .u64 (x : Int)) := (hBr.cell hadl).trans hcx
        obtain ⟨e, hor, hel, he16⟩ := ep_of x i hxl (by omega)
        have hwi : IntKind.u64.wrap (i : Int) = (i : Int) := IntWalk.u64_in _ ⟨by omega, by omega⟩
        have HEE := Lib.hid hel
        have HEI := Lib.hid he16
        have hRp := hRq.start hel he16
        have HST := Lib.hid (c_rStart hRr hIr hPr hrb (Ne.symm hrg) e)
        have HXL := Lib.hid hxl
        clear hcc hil hel he16 hxl hRq
        go_upto_region 14 with fail
        obtain ⟨kk, hkk⟩ : ∃ kk : Nat, (x : Int) / 1152921504606846976 = (kk : Int) := ⟨x / 1152921504606846976, by omega⟩
        have hk15 : kk ≤ 15 := by have := HXL.out; omega
        have hwk : IntKind.i64.wrap (kk : Int) = (kk : Int) := IntWalk.i64_in _ (by omega)
        go_upto_region 15 with (go_at_call 37; (with_reducible refine HST.out.mono ?_); rintro y w5 ⟨rfl, hR5, hI5, hP5, hp5⟩)
        have hB5 := hBr.trans (hp5.1.mono (Nat.le_of_lt hlB))
        clear HST hIr hPr hRr hBr hcxr hp5 hor hwi
        go_wp2_with fail
        go_loopw [12, 15, 16] (fun s12 s15 s16 wq => ∃ (at2 k q2 : Nat) (D2 : Dk) (L : List (List UInt8)), at2 ≤ l3 ∧ k ≤ kk ∧ q2 ≤ 17 * i + k ∧ L.length ≤ sz ∧ s12 = .int .i64 (at2 : Int) ∧ s16 = .int .i64 (k : Int) ∧ Rp key D2 e L ∧ HaveM wq bs bs s15 L ∧ In wq bs b D2 (40 * i + 2 * k) ∧ PenAt wq g b key 1 q2 ∧ RingAt wq r g 2 sz e L.length ∧ Below w.heap.size w wq) (fun _ _ s16 _ => (kk - intOf s16).toNat)
        case atStart => exact ⟨at_, 0, q, D, [], hat, by omega, by omega, Nat.zero_le _, rfl, rfl, hRp, HaveM.nil_ _ _ _, hI5, hP5, hR5, hB5⟩
        case round =>
          obtain ⟨at2, k, q2, D2, L, hat2, hkk2, hq2, hLs, rfl, rfl, hRp2, hH5, hI5, hP5, hR5, hB5⟩ := hrel
          clear hRp
          obtain ⟨A5, c5, rfl⟩ := hH5.form
          obtain ⟨ll, hll⟩ : ∃ ll, L.length = ll := ⟨_, rfl⟩
          rw [hll] at hH5 hR5 hLs ⊢
          have HLL := Lib.hid hll
          have hcx5 : wr.cell? (ad.add i) = some (.int .u64 (x : Int)) := (hB5.cell hadl).trans hcx
          have hi0 : (0 : Int) ≤ (i : Int) := by omega
          have hH5f := hH5
          clear hll
          by_cases hin : (k : Int) < (kk : Int) ∧ (at2 : Int) < (l3 : Int)
          · obtain ⟨hk1, hk2⟩ := hin
            obtain ⟨xs, hxs⟩ : ∃ xs, xss[at2]? = some xs := ⟨_, List.getElem?_eq_getElem (by have := HM.out.1; omega)⟩
            obtain ⟨ad0, v0, rfl, hc0, hx0⟩ := HM.out.2 at2 xs hxs
            obtain ⟨Ax, cx, rfl, hxc, -, hxr, -⟩ := hx0
            have hxl := HX.out xs (List.mem_of_getElem? hxs)
            have HXS := Lib.hid hxl
            have hadl0 : (ad0.add at2).block < w.heap.size := World.block_lt_of_cell? w _ hc0
            have hcy5 : wr.cell? (ad0.add at2) = some (.slice Ax xs.length cx) := (hB5.cell hadl0).trans hc0
            have hxr5 : RdB wr Ax xs.length xs := hxr.below hB5 (Nat.le_refl _)
            have hlow : ∀ ad, Ax = some ad → 0 < xs.length → ad.block < bs := fun ad e h0 => by subst e; exact Nat.lt_trans (Rd.block_lt hxr h0) hlB
            have hat0 : (0 : Int) ≤ (at2 : Int) := by omega
            obtain ⟨at3, hat3⟩ : ∃ at3, at2 + 1 = at3 := ⟨_, rfl⟩
            have hat3i : (at2 : Int) + 1 = (at3 : Int) := by omega
            obtain ⟨k1, hk1n⟩ : ∃ k1, k + 1 = k1 := ⟨_, rfl⟩
            have hk1i : (k : Int) + 1 = (k1 : Int) := by omega
            have hatw : IntKind.i64.wrap (at3 : Int) = (at3 : Int) := IntWalk.i64_in _ (by have := HL3.out; omega)
            have hk1w : IntKind.i64.wrap (k1 : Int) = (k1 : Int) := IntWalk.i64_in _ (by omega)
            have hat3l : at3 ≤ l3 := by omega
            have hk1k : k1 ≤ kk := by omega
            have hkm : kk - k1 < kk - k := by omega
            have hfit : fitsB (12 + xs.length) D2.size = decide (xs.length ≤ 46) := by
              rw [hRp2.sz]; unfold fitsB
              by_cases h : xs.length ≤ 46
              · simp [h]; omega
              · simp [h]; omega
            obtain ⟨xl, hxl2⟩ : ∃ xl, xs.length = xl := ⟨_, rfl⟩
            have HXL2 := Lib.hid hxl2
            rw [hxl2] at hfit hcy5 hxr5 hlow hxc
            clear hxl hxs hat3
            have hpg : ∀ y ∈ [g, r], ∃ c T, Row wr y c T ∧ T ≠ 24 := by
              intro y hy
              simp only [List.mem_cons, List.not_mem_nil, or_false] at hy
              rcases hy with rfl | rfl
              · exact ⟨_, _, hP5.row, by decide⟩
              · exact ⟨_, _, hR5.row, by decide⟩
            by_cases hroom : ll < sz
            · by_cases h46 : xl ≤ 46
              · have had := c_addA hR5 hP5 hI5 (by omega) hrb hgb hrg hroom (by omega) (by decide) hRp2.fr.goes Ax xl cx xs hxr5 (by omega) (by omega) true (by rw [hfit]; exact decide_eq_true h46) (fun _ => (hRp2.fr.write _ _).goes)
                simp only [if_true] at had
                have HAD := Lib.hid had
                have hRp3 := hRp2.add (by rw [HLL.out]; omega) 1 q2 xs (by rw [hxl2, hfit]; exact decide_eq_true h46)
                rw [HLL.out] at hRp3
                have h46i : (xl : Int) ≤ 46 := by omega
                have hlz : (ll : Int) < (sz : Int) := by omega
                clear had h46 hfit hxl2
                generalize (addWr D2 key 1 q2 2 ll e xs).flush = D3 at *
                go_upto_region 22 with (go_at_call 38; (with_reducible refine HAD.out.mono ?_); rintro y w6 ⟨rfl, hI6, hP6, hR6, hp6⟩)
                have hH6 := hH5.px hp6 hpg
                have hB6 := hB5.trans (hp6.1.mono (Nat.le_of_lt hlB))
                have hlow6 : LowAt w6 bs (.slice Ax xl cx) xs := ⟨Ax, cx, by rw [HXL2.out], by rw [HXL2.out]; exact hxc, by rw [HXL2.out]; exact rd_base hxr5 hp6.1 hlow, by rw [HXL2.out]; exact hlow⟩
                clear HAD hH5 hH5f hI5 hP5 hR5 hB5 hp6 hcy5 hxr5 hpg
                go_wp2_with (first | (at_builtin; refine wpl_pushH (B := bs) (base := bs) rfl rfl hH6 hlow6 rfl rfl hI6.le (Nat.le_refl _) (by rw [HLL.out]; omega) ?_; intro v7 w7 hH7 hf7 hb7; try simp only [Act.put]))
                have hI7 := hI6.frT2 hf7 (by decide)
                have hP7 : PenAt w7 g b key 1 (q2 + 1) := ⟨hf7.row hP6.row (by decide), hP6.kl, hP6.bl⟩
                have hR7 : RingAt w7 r g 2 sz e (L ++ [xs]).length := ⟨hf7.row (by rw [List.length_append, HLL.out]; exact hR6.row) (by decide)⟩
                have hB7 := hB6.trans (hb7.mono (Nat.le_of_lt hlB))
                go_roundw
                case rel => exact ⟨at3, k1, q2 + 1, D3, L ++ [xs], hat3l, hk1k, by omega, by rw [List.length_append, HLL.out]; simp; omega, rfl, rfl, hRp3, hH7, ⟨hI7.dk, hI7.le, hI7.bd.mono (by omega)⟩, hP7, hR7, hB7⟩
                case measure => simp [intOf]; omega
              · have had := c_addA hR5 hP5 hI5 (by omega) hrb hgb hrg hroom (by omega) (by decide) hRp2.fr.goes Ax xl cx xs hxr5 (by have := HXS.out; omega) (by omega) false (by rw [hfit]; exact decide_eq_false h46) (fun h => by cases h)
                simp only [Bool.false_eq_true, if_false] at had
                have HAD := Lib.hid had
                have h46i : ¬ (xl : Int) ≤ 46 := by omega
                clear had h46 hfit hxl2
                go_upto_region 22 with (go_at_call 38; (with_reducible refine HAD.out.mono ?_); rintro y w6 ⟨rfl, hI6, hP6, hR6, hp6⟩)
                have hH6 := hH5.px hp6 hpg
                have hB6 := hB5.trans (hp6.1.mono (Nat.le_of_lt hlB))
                clear HAD hH5 hH5f hI5 hP5 hR5 hB5 hp6 hcy5 hxr5 hpg
                go_wp2_with fail
                go_roundw
                case rel => exact ⟨at3, k1, q2, D2, L, hat3l, hk1k, by omega, by rw [HLL.out]; exact hLs, rfl, rfl, hRp2, hH6, ⟨hI6.dk, hI6.le, hI6.bd.mono (by omega)⟩, hP6, by rw [HLL.out]; exact hR6, hB6⟩
                case measure => simp [intOf]; omega
            · have HAD := Lib.hid (c_addFull hR5 (by omega) Ax xl cx)
              have hlz : ¬ (ll : Int) < (sz : Int) := by omega
              clear hfit hxl2
              rcases (show (xl : Int) ≤ 46 ∨ ¬ (xl : Int) ≤ 46 by omega) with h46i | h46i
              all_goals
                go_upto_region 22 with (go_at_call 38; (with_reducible refine HAD.out.mono ?_); rintro y w6 ⟨rfl, hb6⟩)
                have hH6 := hH5.below hb6 hI5.le
                have hI6 := hI5.below hb6
                have hP6 := hP5.below hb6 hP5.lt
                have hR6 := hR5.below hb6 hR5.lt
                have hB6 := below_two hB5 hb6
                clear HAD hH5 hH5f hI5 hP5 hR5 hB5 hb6 hcy5 hxr5 hpg
                go_wp2_with fail
                go_roundw
                case rel => exact ⟨at3, k1, q2, D2, L, hat3l, hk1k, by omega, by rw [HLL.out]; exact hLs, rfl, rfl, hRp2, hH6, ⟨hI6.dk, hI6.le, hI6.bd.mono (by omega)⟩, hP6, by rw [HLL.out]; exact hR6, hB6⟩
                case measure => simp [intOf]; omega
          · have hor : ¬ (k : Int) < (kk : Int) ∨ ((k : Int) < (kk : Int) ∧ ¬ (at2 : Int) < (l3 : Int)) := by omega
            have HLE := Lib.hid (c_rLen hR5)
            obtain ⟨e2, he2⟩ : ∃ e2 : Nat, IntKind.u64.wrap ((e : Int) + 1099511627776) = (e2 : Int) := ⟨((e + 1099511627776) % 18446744073709551616), by rw [IntKind.wrap_u64]; omega⟩
            have he2f : e2 < 18446744073709551616 ∧ e2 % 16 = e % 16 ∧ e2 ≠ e := by
              rw [IntKind.wrap_u64] at he2
              have := HEE.out
              omega
            have HE2 := Lib.hid he2f
            clear he2f
            rcases hor with q | ⟨q1', q2'⟩
            all_goals
              go_upto_region 28 with (go_at_call 41; (with_reducible refine HLE.out.mono ?_); rintro y w' ⟨rfl, rfl⟩)
              clear HLE hcx5
              go_upto_region 31 with (go_at_call 35; (with_reducible refine (c_rNew g 2 sz 2 (sz : Int) rfl rfl wr).mono ?_); rintro y w6 ⟨ro, rfl, hO6, hro, hb6⟩)
              have hI6 := hI5.below hb6
              have hP6 := hP5.below hb6 hP5.lt
              have hR6 := hR5.below hb6 hR5.lt
              have hH6 := hH5.below hb6 hI5.le
              have hB6 := below_two hB5 hb6
              have hob : bs ≤ ro := Nat.le_trans hI5.le hro
              have hog : ro ≠ g := by have := hP5.lt; omega
              have hor' : r ≠ ro := by have := hR5.lt; omega
              have hld := c_load hO6 hP6 hI6 (by omega) hRp2.fr hob hgb hog (by omega) (by decide) e
              rw [hRp2.load (by rw [HLL.out]; exact hLs) (by omega), HLL.out] at hld
              have HLD := Lib.hid hld
              have hRp3 := hRp2.reads ((2 : Nat) : Int) sz
              have hp1 : ∀ y ∈ [ro], ∃ c T, Row w6 y c T ∧ T ≠ 24 := by
                intro y hy
                simp only [List.mem_singleton] at hy
                subst hy
                exact ⟨_, _, hO6.row, by decide⟩
              clear hld hb6 hro hI5 hP5 hR5 hH5 hH5f hB5
              generalize readsD D2 ((2 : Nat) : Int) sz = D3 at *
              go_upto_region 32 with (go_at_call 40; (with_reducible refine HLD.out.mono ?_); rintro y w8 ⟨v8, rfl, hG8, hI8, hP8, hO8, hp8⟩)
              obtain ⟨A8, c8, rfl⟩ := hG8.form
              rw [HLL.out] at hG8 ⊢
              have hR8 := hR6.px hp8 (by simp; exact hor')
              have hH8 := hH6.px hp8 hp1
              have hB8 := hB6.trans (hp8.1.mono (Nat.le_of_lt hlB))
              have hle8 := hI8.le
              have HLO := Lib.hid (c_rLen hO8)
              clear HLD hp8 hp1 hI6 hP6 hR6 hH6 hB6
              go_upto_region 35 with (go_at_call 41; (with_reducible refine HLO.out.mono ?_); rintro y w' ⟨rfl, rfl⟩)
              go_loopw [21] (fun s21 wz => ∃ j : Nat, j ≤ ll ∧ s21 = .int .i64 (j : Int) ∧ Below w8.heap.size w8 wz) (fun s21 _ => (ll - intOf s21).toNat)
              case atStart => exact ⟨0, by omega, rfl, Below.refl _ _⟩
              case round =>
                obtain ⟨j, hj, rfl, hbz⟩ := hrel
                by_cases hje : j < ll
                · obtain ⟨xs, hxs⟩ : ∃ xs, L[j]? = some xs := ⟨_, List.getElem?_eq_getElem (by rw [HLL.out]; exact hje)⟩
                  have hbd : Below w8.heap.size w8 wr.drew := below_drew hbz
                  obtain ⟨g1, d1, Ag, dg, ev1, hc1, -, hby⟩ := (hG8.below hbd hle8).elem hxs
                  obtain ⟨g2, d2, Ah, dh, ev2, hc2, -, hrh⟩ := (hH8.below hbd hle8).elem hxs
                  obtain ⟨Ag', dg', eg, -, -, hrg', -⟩ := hby
                  simp only [Value.slice.injEq] at eg ev1 ev2
                  obtain ⟨rfl, -, rfl⟩ := eg
                  obtain ⟨rfl, -, -⟩ := ev1
                  obtain ⟨rfl, -, -⟩ := ev2
                  have s1 : ∀ w', KpP wr.drew w' → (convert 24 9 (.slice Ag xs.length dg)).run Try.prog w' = .ok (.string (strB xs)) w' := fun w' hb => conv_rd (Rd.below hrg' hb (Nat.le_refl _))
                  have s2 : ∀ w', KpP wr.drew w' → (convert 24 9 (.slice Ah xs.length dh)).run Try.prog w' = .ok (.string (strB xs)) w' := fun w' hb => conv_rd (Rd.below hrh hb (Nat.le_refl _))
                  have hj0 : (0 : Int) ≤ (j : Int) := by omega
                  have hjl : (j : Int) < (ll : Int) := by omega
                  obtain ⟨j1, hj1⟩ : ∃ j1, j + 1 = j1 := ⟨_, rfl⟩
                  have hji : (j : Int) + 1 = (j1 : Int) := by omega
                  have hwj : IntKind.i64.wrap (j1 : Int) = (j1 : Int) := IntWalk.i64_in _ (by omega)
                  have hj1l : j1 ≤ ll := by omega
                  have hjm : ll - j1 < ll - j := by omega
                  have hbk : Below w8.heap.size w8 wr.drew := hbd
                  clear hbd hrg' hrh hj1 hxs
                  generalize strB xs = sx at *
                  go_upto_region 37 with fail
                  (refine wp_region_linN (KpP) (KpP) (wayKpP) (wayKpP) (fun _ _ h => h) (.free 0 (.free 1 (.free 2 (.hot 3 (.hot 4 (.free 5 (.free 6 (.free 7 (.hot 8 (.hot 9 (.free 10 .nil))))))))))) rfl (by kernel_rfl) (by kernel_rfl) (fun _ _ _ _ _ h => h) ?_; (first | (apply linN_free; (simp only [List.getElem?_toArray, List.getElem?_cons_succ, List.getElem?_cons_zero]; rfl); (rfl); (intro w'; (first | (go_simp; done) | (go_simp; with_reducible rfl) | (go_simp; go_bits; with_reducible rfl) | (go_simp; go_bits; done))); try simp only [Act.put, List.setIfInBounds_toArray, List.set_cons_zero, List.set_cons_succ]) | (apply linN_freeSkip; (simp only [List.getElem?_toArray, List.getElem?_cons_succ, List.getElem?_cons_zero]; rfl); (rfl); try simp only [Act.put, List.setIfInBounds_toArray, List.set_cons_zero, List.set_cons_succ])); (first | (apply linN_free; (simp only [List.getElem?_toArray, List.getElem?_cons_succ, List.getElem?_cons_zero]; rfl); (rfl); (intro w'; (first | (go_simp; done) | (go_simp; with_reducible rfl) | (go_simp; go_bits; with_reducible rfl) | (go_simp; go_bits; done))); try simp only [Act.put, List.setIfInBounds_toArray, List.set_cons_zero, List.set_cons_succ]) | (apply linN_freeSkip; (simp only [List.getElem?_toArray, List.getElem?_cons_succ, List.getElem?_cons_zero]; rfl); (rfl); try simp only [Act.put, List.setIfInBounds_toArray, List.set_cons_zero, List.set_cons_succ])); (first | (apply linN_free; (simp only [List.getElem?_toArray, List.getElem?_cons_succ, List.getElem?_cons_zero]; rfl); (rfl); (intro w'; (first | (go_simp; done) | (go_simp; with_reducible rfl) | (go_simp; go_bits; with_reducible rfl) | (go_simp; go_bits; done))); try simp only [Act.put, List.setIfInBounds_toArray, List.set_cons_zero, List.set_cons_succ]) | (apply linN_freeSkip; (simp only [List.getElem?_toArray, List.getElem?_cons_succ, List.getElem?_cons_zero]; rfl); (rfl); try simp only [Act.put, List.setIfInBounds_toArray, List.set_cons_zero, List.set_cons_succ])); (first | (apply linN_hot; (simp only [List.getElem?_toArray, List.getElem?_cons_succ, List.getElem?_cons_zero]; rfl); (rfl); (intro w' hb'; (try have k_hc1 := kpP_cell hb' hc1); (try have k_hc2 := kpP_cell hb' hc2); (try have ks1 := s1 _ hb'); (try have ks2 := s2 _ hb'); (first | (go_simp; done) | (go_simp; with_reducible rfl) | (go_simp; go_bits; with_reducible rfl) | (go_simp; go_bits; done))); try simp only [Act.put, List.setIfInBounds_toArray, List.set_cons_zero, List.set_cons_succ]) | (apply linN_hotSkip; (simp only [List.getElem?_toArray, List.getElem?_cons_succ, List.getElem?_cons_zero]; rfl); (rfl); try simp only [Act.put, List.setIfInBounds_toArray, List.set_cons_zero, List.set_cons_succ])); (first | (apply linN_hot; (simp only [List.getElem?_toArray, List.getElem?_cons_succ, List.getElem?_cons_zero]; rfl); (rfl); (intro w' hb'; (try have k_hc1 := kpP_cell hb' hc1); (try have k_hc2 := kpP_cell hb' hc2); (try have ks1 := s1 _ hb'); (try have ks2 := s2 _ hb'); (first | (go_simp; done) | (go_simp; with_reducible rfl) | (go_simp; go_bits; with_reducible rfl) | (go_simp; go_bits; done))); try simp only [Act.put, List.setIfInBounds_toArray, List.set_cons_zero, List.set_cons_succ]) | (apply linN_hotSkip; (simp only [List.getElem?_toArray, List.getElem?_cons_succ, List.getElem?_cons_zero]; rfl); (rfl); try simp only [Act.put, List.setIfInBounds_toArray, List.set_cons_zero, List.set_cons_succ])); (first | (apply linN_free; (simp only [List.getElem?_toArray, List.getElem?_cons_succ, List.getElem?_cons_zero]; rfl); (rfl); (intro w'; (first | (go_simp; done) | (go_simp; with_reducible rfl) | (go_simp; go_bits; with_reducible rfl) | (go_simp; go_bits; done))); try simp only [Act.put, List.setIfInBounds_toArray, List.set_cons_zero, List.set_cons_succ]) | (apply linN_freeSkip; (simp only [List.getElem?_toArray, List.getElem?_cons_succ, List.getElem?_cons_zero]; rfl); (rfl); try simp only [Act.put, List.setIfInBounds_toArray, List.set_cons_zero, List.set_cons_succ])); (first | (apply linN_free; (simp only [List.getElem?_toArray, List.getElem?_cons_succ, List.getElem?_cons_zero]; rfl); (rfl); (intro w'; (first | (go_simp; done) | (go_simp; with_reducible rfl) | (go_simp; go_bits; with_reducible rfl) | (go_simp; go_bits; done))); try simp only [Act.put, List.setIfInBounds_toArray, List.set_cons_zero, List.set_cons_succ]) | (apply linN_freeSkip; (simp only [List.getElem?_toArray, List.getElem?_cons_succ, List.getElem?_cons_zero]; rfl); (rfl); try simp only [Act.put, List.setIfInBounds_toArray, List.set_cons_zero, List.set_cons_succ])); (first | (apply linN_free; (simp only [List.getElem?_toArray, List.getElem?_cons_succ, List.getElem?_cons_zero]; rfl); (rfl); (intro w'; (first | (go_simp; done) | (go_simp; with_reducible rfl) | (go_simp; go_bits; with_reducible rfl) | (go_simp; go_bits; done))); try simp only [Act.put, List.setIfInBounds_toArray, List.set_cons_zero, List.set_cons_succ]) | (apply linN_freeSkip; (simp only [List.getElem?_toArray, List.getElem?_cons_succ, List.getElem?_cons_zero]; rfl); (rfl); try simp only [Act.put, List.setIfInBounds_toArray, List.set_cons_zero, List.set_cons_succ])); (first | (apply linN_hot; (simp only [List.getElem?_toArray, List.getElem?_cons_succ, List.getElem?_cons_zero]; rfl); (rfl); (intro w' hb'; (try have k_hc1 := kpP_cell hb' hc1); (try have k_hc2 := kpP_cell hb' hc2); (try have ks1 := s1 _ hb'); (try have ks2 := s2 _ hb'); (first | (go_simp; done) | (go_simp; with_reducible rfl) | (go_simp; go_bits; with_reducible rfl) | (go_simp; go_bits; done))); try simp only [Act.put, List.setIfInBounds_toArray, List.set_cons_zero, List.set_cons_succ]) | (apply linN_hotSkip; (simp only [List.getElem?_toArray, List.getElem?_cons_succ, List.getElem?_cons_zero]; rfl); (rfl); try simp only [Act.put, List.setIfInBounds_toArray, List.set_cons_zero, List.set_cons_succ])); (first | (apply linN_hot; (simp only [List.getElem?_toArray, List.getElem?_cons_succ, List.getElem?_cons_zero]; rfl); (rfl); (intro w' hb'; (try have k_hc1 := kpP_cell hb' hc1); (try have k_hc2 := kpP_cell hb' hc2); (try have ks1 := s1 _ hb'); (try have ks2 := s2 _ hb'); (first | (go_simp; done) | (go_simp; with_reducible rfl) | (go_simp; go_bits; with_reducible rfl) | (go_simp; go_bits; done))); try simp only [Act.put, List.setIfInBounds_toArray, List.set_cons_zero, List.set_cons_succ]) | (apply linN_hotSkip; (simp only [List.getElem?_toArray, List.getElem?_cons_succ, List.getElem?_cons_zero]; rfl); (rfl); try simp only [Act.put, List.setIfInBounds_toArray, List.set_cons_zero, List.set_cons_succ])); (first | (apply linN_free; (simp only [List.getElem?_toArray, List.getElem?_cons_succ, List.getElem?_cons_zero]; rfl); (rfl); (intro w'; (first | (go_simp; done) | (go_simp; with_reducible rfl) | (go_simp; go_bits; with_reducible rfl) | (go_simp; go_bits; done))); try simp only [Act.put, List.setIfInBounds_toArray, List.set_cons_zero, List.set_cons_succ]) | (apply linN_freeSkip; (simp only [List.getElem?_toArray, List.getElem?_cons_succ, List.getElem?_cons_zero]; rfl); (rfl); try simp only [Act.put, List.setIfInBounds_toArray, List.set_cons_zero, List.set_cons_succ])); refine linN_end ?_)
                  go_wp2_with fail
                  go_roundw
                  case rel => exact ⟨j1, hj1l, rfl, hbk⟩
                  case measure => simp [intOf]; omega
                · obtain rfl : j = ll := by omega
                  have hI9 := hI8.below hbz
                  have hP9 := hP8.below hbz hP8.lt
                  have hO9 := hO8.below hbz hO8.lt
                  have hR9 := hR8.below hbz hR8.lt
                  have hB9 := below_two hB8 hbz
                  clear hG8 hH8 hI8 hP8 hO8 hR8 hB8 hbz HLO
                  by_cases hroom : j < sz
                  case' pos =>
                    have hl4 : RdB (wr.alloc (.cells #[.int .u8 109, .int .u8 111, .int .u8 114, .int .u8 101] 5 (4, 5))) (some ⟨wr.heap.size, 0, none⟩) 4 [109, 111, 114, 101] := rd_lit wr [.int .u8 109, .int .u8 111, .int .u8 114, .int .u8 101] 5 (4, 5) 4 rfl
                    have hb10 := below_alloc (Below.refl wr.heap.size wr) (.cells #[.int .u8 109, .int .u8 111, .int .u8 114, .int .u8 101] 5 (4, 5))
                    have hcv := Go.Lib.run_convert_bytes_const (P := Try.prog) wr 24 5 #[.int .u8 109, .int .u8 111, .int .u8 114, .int .u8 101] 4 4 Try.underlying24 Try.underlying5
                    have hO10 := hO9.below hb10 hO9.lt
                    have hP10 := hP9.below hb10 hP9.lt
                    have hI10 := hI9.below hb10
                    have hR10 := hR9.below hb10 hR9.lt
                    have hB10 := below_two hB9 hb10
                    have had := fun c => c_addA hO10 hP10 hI10 (by omega) hob hgb hog hroom (by omega) (by decide) hRp3.fr.goes (some ⟨wr.heap.size, 0, none⟩) 4 c [109, 111, 114, 101] hl4 (by decide) (by omega) true (by rw [hRp3.sz]; decide) (fun _ => (hRp3.fr.write _ _).goes)
                    simp only [if_true] at had
                    have hRp4 := hRp3.add (by rw [HLL.out]; omega) 1 q2 [109, 111, 114, 101] (by rw [hRp3.sz]; decide)
                    rw [HLL.out] at hRp4
                    have HAD := Lib.hid had
                    have hjz : (j : Int) < (sz : Int) := by omega
                    obtain ⟨j1, hj1⟩ : ∃ j1, j + 1 = j1 := ⟨_, rfl⟩
                    have hji : (j : Int) + 1 = (j1 : Int) := by omega
                    have hwj : IntKind.i64.wrap (j1 : Int) = (j1 : Int) := IntWalk.i64_in _ (by omega)
                    rw [hj1] at HAD
                    clear had hl4 hb10 hI9 hP9 hO9 hR9 hB9 hI10 hP10 hO10 hRp3 hroom hj1
                    generalize (addWr D3 key 1 q2 2 j e [109, 111, 114, 101]).flush = D4 at *
                    go_upto_region 40 with fail
                    go_wp2_with fail
                    refine (HAD.out _).mono ?_
                    rintro y w11 ⟨rfl, hI11, hP11, hO11, hp11⟩
                    have hR11 := hR10.px hp11 (by simp; exact ⟨hrg, hor'⟩)
                    have hB11 := hB10.trans (hp11.1.mono (Nat.le_of_lt hlB))
                    have HLO := Lib.hid (c_rLen hO11)
                    clear HAD hp11 hR10 hB10 hcv
                    go_upto_region 42 with (go_at_call 41; (with_reducible refine HLO.out.mono ?_); rintro y w' ⟨rfl, rfl⟩)
                    clear HLO
                    have hqn : q2 + 1 ≤ 17 * (i + 1) := by omega
                    have hI12 : In w11 bs b D4 (40 * i + 36) := ⟨hI11.dk, hI11.le, hI11.bd.mono (by omega)⟩
                    clear hI11 hji hwj hjz
                    generalize L ++ [[109, 111, 114, 101]] = L4 at *
                    generalize q2 + 1 = q4 at *
                    generalize j1 = n4 at *
                  case' neg =>
                    have hjz : ¬ (j : Int) < (sz : Int) := by omega
                    go_upto_region 42 with fail
                    have hqn : q2 ≤ 17 * (i + 1) := by omega
                    have hI12 : In wr bs b D3 (40 * i + 36) := ⟨hI9.dk, hI9.le, hI9.bd.mono (by omega)⟩
                    have hRp4 := hRp3
                    have hP11 := hP9
                    have hO11 := hO9
                    have hR11 := hR9
                    have hB11 := hB9
                    clear hI9 hjz hRp3 hP9 hO9 hR9 hB9
                    generalize hL4 : L = L4 at *
                    generalize hD4 : D3 = D4 at *
                    generalize hq4 : q2 = q4 at *
                    generalize hn4 : j = n4 at *
                    generalize hw11 : wr = w11 at *
                  all_goals
                    have hld2 := c_load hO11 hP11 hI12 (by omega) hRp4.fr hob hgb hog (by omega) (by decide) e2
                    rw [hRp4.other HE2.out.1 HE2.out.2.1 HE2.out.2.2 sz] at hld2
                    have HLD2 := Lib.hid hld2
                    have hRq := (hRp4.reads ((2 : Nat) : Int) sz).done
                    rw [HEI.out] at hRq
                    clear hld2
                    generalize readsD D4 ((2 : Nat) : Int) sz = D5 at *
                    go_wp2_with (go_at_call 40; (with_reducible refine HLD2.out.mono ?_); rintro y w12 ⟨v12, rfl, hG12, hI13, hP12, hO12, hp12⟩; obtain ⟨A12, c12, rfl⟩ := hG12.form)
                    have hR12 := hR11.px hp12 (by simp; exact hor')
                    have hB12 := hB11.trans (hp12.1.mono (Nat.le_of_lt hlB))
                    go_roundw
                    case rel => exact ⟨at2, i + 1, q4, e, _, D5, by omega, hat2, hqn, rfl, by go_num, hRq, ⟨hI13.dk, hI13.le, hI13.bd.mono (by omega)⟩, hP12, hR12, hB12⟩
                    case measure => simp [intOf]; omega
      · have hor : ¬ (i : Int) < (l2 : Int) ∨ ((i : Int) < (l2 : Int) ∧ ¬ (i : Int) < 12) := by omega
        rcases hor with q | ⟨q1, q2⟩
        all_goals
          go_wp2_with (go_at_call 36; (with_reducible refine (c_awake11 _).mono ?_); rintro e w5 ⟨rfl, hb5⟩)
          go_ret
          exact ⟨rfl, below_two hBr hb5⟩
theorem w_RingPlays (y0 : List UInt8) (a1 : Int) (a2 : Option Addr) (len2 cap2 : Nat) (z2 : List Int) (a3 : Option Addr) (len3 cap3 : Nat) (w : World) (w0 : y0.length = 32) (w1 : (Lit.int .i64 a1).wf = true) (w2 : IsRow .u64 w a2 len2 cap2 z2) (s2 : len2 ≤ 140737488355328) (w3 : IsMatS .u8 w a3 len3 cap3) :
    Calls Try.prog 9 #[.agg (bv y0).toArray, .int .i64 a1, .slice a2 len2 cap2, .slice a3 len3 cap3] w fun e w' => e = .returned (.bool true) ∧ Below w.heap.size w w' := by
  obtain ⟨es, hR, hel, hes⟩ := row_u64R w2
  have hl3 : len3 ≤ 9223372036854775807 := by
    rcases w3 with ⟨_, rfl, _⟩ | ⟨x, A, L, C, Z, _, h1, h2, _⟩
    · exact Nat.zero_le _
    · unfold maxLen at h2; omega
  obtain ⟨xss, hM, hX⟩ := mat_bytesS w3
  exact w_rpla0 y0 w0 a1 a2 a3 len2 cap2 len3 cap3 es xss w hR hel hes hM hl3 hX
end Go.Proofs.Ytmdmhjcdaejlkaa
