/- The walk of RingSteps. -/
import Derived.Test.YtmdmhjcdaejlkaaGT
import Derived.Test.YtmdmhjcdaejlkaaMatS
import Derived.Test.YtmdmhjcdaejlkaaBlankQ
set_option linter.unusedVariables false
set_option linter.unusedSimpArgs false
namespace Go.Proofs.Ytmdmhjcdaejlkaa
open Go.RowKit

structure Rs (key : List UInt8) (D : Dk) (n : Nat) : Prop where
  fr : Free D
  sz : D.size = ((60 : Nat) : Int)
  bl : D.blocks = 20
  rc : ∃ l : List (List UInt8), l.length = n ∧ ∀ j x, l[j]? = some x → txA key D 5 j = some (rhL 1 j ++ x)
  no : ∀ j, n ≤ j → txA key D 5 j = none
theorem rs_new {key : List UInt8} (hb : openL key (List.replicate 60 0) = none) : Rs key (dkNew 20 60) 0 :=
  ⟨⟨rfl, rfl⟩, rfl, rfl, ⟨[], rfl, fun j x h => by simp at h⟩, fun j _ => txA_fresh (bl := 20) (s := 60) (by decide) hb 5 j⟩
theorem Rs.add {key : List UInt8} {D : Dk} {n : Nat} (h : Rs key D n) (hn : n ≤ 7) (boot seq : Nat) (rec : List UInt8) (hr : fitsB (12 + rec.length) D.size = true) : Rs key (addWr D key boot seq 5 n 1 rec).flush (n + 1) := by
  have hh : D.has ((5 + n : Nat) : Int) = true := has_true (by omega) (by rw [h.bl]; omega)
  have ht := fun i => txA_add (key := key) (boot := boot) (seq := seq) (at_ := 5) (n := n) (epoch := 1) h.sz (by decide) hr hh i
  obtain ⟨l, hl, hx⟩ := h.rc
  refine ⟨add_free h.fr, by rw [add_size]; exact h.sz, by rw [add_blocks]; exact h.bl, ⟨l ++ [rec], by simp [hl], fun j x hj => ?_⟩, fun j hj => ?_⟩
  · rw [ht]
    rcases Nat.lt_or_ge j l.length with q | q
    · rw [List.getElem?_append_left q] at hj
      rw [if_neg (by omega)]
      exact hx j x hj
    · rw [List.getElem?_append_right q] at hj
      have e : j = n := by
        rcases Nat.eq_zero_or_pos (j - l.length) with h | h
        · omega
        · rw [List.getElem?_eq_none (by simp; omega)] at hj; cases hj
      subst e
      rw [if_pos rfl]
      rw [hl, Nat.sub_self] at hj
      cases hj
      rfl
  · rw [ht, if_neg (by omega)]
    exact h.no j (by omega)
theorem Rs.load {key : List UInt8} {D : Dk} {n sz : Nat} (h : Rs key D n) (hn : n ≤ sz) (hs : sz ≤ 7) : (loadN key D ((5 : Nat) : Int) 1 sz).length = n := by
  obtain ⟨l, hl, hx⟩ := h.rc
  have := load_pre (key := key) (D := D) (at_ := 5) (e := 1) (l := l) (fun j x hj => by
    have hjl : j < l.length := (List.getElem?_eq_some_iff.1 hj).1
    rw [recA_tx, hx j x hj]
    exact (recN_rh (by decide) (by decide) (by omega) (by omega) _).trans (if_pos ⟨rfl, rfl⟩)) (by rw [recA_tx, h.no _ (by omega)]; rfl) sz
  rw [this, List.length_take]
  omega
/-- the trace behind a record -/
structure RsT (D D' : Dk) (k : Nat) (pl : Int) : Prop where
  len : D'.trace.length = k + 2
  ev : ∃ H B, D'.trace[k]? = some ⟨2, pl, H, B⟩
  fl : ∃ H B, D'.trace[k + 1]? = some ⟨3, 0, H, B⟩
theorem rst {D : Dk} {key : List UInt8} {boot seq at_ n e k : Nat} {rec : List UInt8} (hk : D.trace.length = k) : RsT D (addWr D key boot seq at_ n e rec).flush k ((at_ + n : Nat) : Int) := by
  have h : (addWr D key boot seq at_ n e rec).flush.trace = D.trace ++ [⟨2, ((at_ + n : Nat) : Int), headL (fitL D.size (sealL key boot seq (rhL e n ++ rec) D.size.toNat)), fitL D.size (sealL key boot seq (rhL e n ++ rec) D.size.toNat)⟩] ++ [⟨3, 0, headL [], []⟩] := by
    unfold addWr
    show (D.write _ _).trace ++ _ = _
    rw [write_trace]
  rw [← hk]
  refine ⟨by rw [h]; simp, ⟨_, _, by rw [h, List.append_assoc, List.getElem?_append_right (by simp)]; simp; exact ⟨rfl, rfl⟩⟩, ⟨_, _, by rw [h, List.getElem?_append_right (by simp)]; simp; exact ⟨rfl, rfl⟩⟩⟩
theorem reads_len (D : Dk) (a : Int) (i : Nat) : (readsD D a i).trace.length = D.trace.length + i := by
  induction i with
  | zero => rfl
  | succ i ih =>
    show ((readsD D a i).trace ++ [_]).length = _
    rw [List.length_append, ih]; rfl
theorem reads_ev (D : Dk) (a : Int) (i j : Nat) (hj : j < i) : ∃ H, (readsD D a i).trace[D.trace.length + j]? = some ⟨1, a + (j : Int), H, []⟩ := by
  induction i with
  | zero => omega
  | succ i ih =>
    have hl := reads_len D a i
    have e : (readsD D a (i + 1)).trace = (readsD D a i).trace ++ [⟨1, a + (i : Int), headL ((readsD D a i).at_ (readsD D a i).now (a + (i : Int))), []⟩] := rfl
    rw [e]
    rcases Nat.lt_or_ge j i with h | h
    · rw [List.getElem?_append_left (by omega)]
      exact ih h
    · have : j = i := by omega
      subst this
      rw [List.getElem?_append_right (by omega), hl, Nat.sub_self]
      exact ⟨_, rfl⟩
set_option maxHeartbeats 16000000 in
set_option maxRecDepth 100000 in
theorem w_rste0 (x0 : Int) (A0 : Option Addr) (l0 c0 : Nat) (xss : List (List UInt8)) (w : World) (hM : Mat w A0 l0 xss) (hX : ∀ xs ∈ xss, xs.length ≤ 140737488351232) :
    Calls Try.prog 11 #[.int .i64 x0, .slice A0 l0 c0] w fun e w' => e = .returned (.bool true) ∧ Below w.heap.size w w' := by
  have HM := Lib.hid hM
  have HX := Lib.hid hX
  have hm7 := m7 x0
  obtain ⟨sz, hsz⟩ : ∃ sz : Nat, x0 % 8 = (sz : Int) := ⟨(x0 % 8).toNat, by omega⟩
  have hs7 : sz ≤ 7 := by omega
  rw [hsz] at hm7
  clear hM hX hsz
  go_enter Try.func11, Try.ntmps11
  go_wp2_with fail
  refine (i_new 20 60 w (by decide) (by decide)).mono ?_
  rintro e w1 ⟨b, rfl, hI, hB⟩
  obtain ⟨key, hkey⟩ : ∃ key : List UInt8, key = 6 :: List.replicate 31 0 := ⟨_, rfl⟩
  have hk32 : key.length = 32 := by rw [hkey]; rfl
  have hkv : (#[.int .u8 6, .int .u8 0, .int .u8 0, .int .u8 0, .int .u8 0, .int .u8 0, .int .u8 0, .int .u8 0, .int .u8 0, .int .u8 0, .int .u8 0, .int .u8 0, .int .u8 0, .int .u8 0, .int .u8 0, .int .u8 0, .int .u8 0, .int .u8 0, .int .u8 0, .int .u8 0, .int .u8 0, .int .u8 0, .int .u8 0, .int .u8 0, .int .u8 0, .int .u8 0, .int .u8 0, .int .u8 0, .int .u8 0, .int .u8 0, .int .u8 0, .int .u8 0] : Array Value) = (bv key).toArray := by rw [hkey]; rfl
  have hbl : openL key (List.replicate 60 0) = none := by rw [hkey]; exact blank6
  have hrs := rs_new hbl
  have hn1 := p_new b key hk32 1 (by decide) w1
  rw [hkv.symm] at hn1
  simp only [show ((1 : Nat) : Int) = 1 from rfl] at hn1
  have HN1 := Lib.hid hn1
  clear hkey hkv hbl hn1 hk32
  generalize dkNew 20 60 = D0 at *
  go_wp2_with fail
  refine HN1.out.mono ?_
  rintro e w2 ⟨g, rfl, hP, hg, hb2⟩
  have hI2 := hI.below hb2
  have hgb : w.heap.size ≤ g := Nat.le_trans hI.le hg
  have hB2 := below_two hB hb2
  clear HN1 hI hB hb2 hg
  go_wp2_with fail
  refine (c_rNew g 5 sz 5 (sz : Int) rfl rfl w2).mono ?_
  rintro e w3 ⟨r, rfl, hR, hr, hb3⟩
  have hI3 := hI2.below hb3
  have hP3 := hP.below hb3 hP.lt
  have hrb : w.heap.size ≤ r := Nat.le_trans hI2.le hr
  have hrg : r ≠ g := by have := hP.lt; omega
  have hB3 := below_two hB2 hb3
  clear hb3 hr hI2 hP hB2
  have hst := c_rStart hR hI3 hP3 hrb (Ne.symm hrg) 1
  simp only [show ((1 : Nat) : Int) = 1 from rfl] at hst
  go_upto_region 8 with (go_at_call 37; (with_reducible refine hst.mono ?_); rintro e w4 ⟨rfl, hR4, hI4, hP4, hp4⟩)
  have hB4 := hB3.trans hp4.1
  clear hst hR hI3 hP3 hB3 hp4
  go_wp2_with fail
  go_loopw [8, 9] (fun s8 s9 wr => ∃ (i n : Nat) (D : Dk), i ≤ 12 ∧ n ≤ i ∧ n ≤ sz ∧ s8 = .int .i64 (n : Int) ∧ s9 = .int .i64 (i : Int) ∧ Rs key D n ∧ In wr w.heap.size b D (2 * i) ∧ PenAt wr g b key 1 n ∧ RingAt wr r g 5 sz 1 n ∧ Below w.heap.size w wr) (fun _ s9 _ => (12 - intOf s9).toNat)
  case atStart => exact ⟨0, 0, D0, by omega, by omega, by omega, rfl, rfl, hrs, hI4, hP4, hR4, hB4⟩
  case round =>
    obtain ⟨i, n, D, hi, hni, hns, rfl, rfl, hRs, hIr, hPr, hRr, hBr⟩ := hrel
    clear hrs hI4 hP4 hR4 hB4
    by_cases hend : (i : Int) < (l0 : Int) ∧ (i : Int) < 12
    · obtain ⟨q0, q1⟩ := hend
      obtain ⟨xs, hxs⟩ : ∃ xs, xss[i]? = some xs := ⟨_, List.getElem?_eq_getElem (by have := HM.out.1; omega)⟩
      obtain ⟨ad0, v0, rfl, hc0, hx0⟩ := HM.out.2 i xs hxs
      obtain ⟨Ax, cx, rfl, -, -, hxr, -⟩ := hx0
      have hxl := HX.out xs (List.mem_of_getElem? hxs)
      have HXL := Lib.hid hxl
      have hadl : (ad0.add i).block < w.heap.size := World.block_lt_of_cell? w _ hc0
      obtain ⟨k, hk⟩ : ∃ k, D.trace.length = k := ⟨_, rfl⟩
      have hkl := hIr.bd.ln
      rw [hk] at hkl
      have HKT := Lib.hid hk
      have HTR := Lib.hid (i_trace hIr (by omega))
      clear hk hxl hxs
      go_upto_region 13 with (go_at_call 26; (with_reducible refine HTR.out.mono ?_); rintro e w5 ⟨vt, rfl, ht5, hI5, hb5⟩; (obtain ⟨ts9, -, -, ht6⟩ := ht5); (obtain ⟨A9, c9, rfl, -, -⟩ := own_form ht6); rw [HKT.out])
      have hP5 := hPr.below hb5 hPr.lt
      have hR5 := hRr.below hb5 hRr.lt
      have hB5 := below_two hBr hb5
      have hcx5 : w5.cell? (ad0.add i) = some (.slice Ax xs.length cx) := (hB5.cell hadl).trans hc0
      have hxr5 : RdB w5 Ax xs.length xs := hxr.below hB5 (Nat.le_refl _)
      clear HTR ht6 hIr hPr hRr hBr hb5
      have hfit : fitsB (12 + xs.length) D.size = decide (xs.length ≤ 26) := by
        rw [hRs.sz]; unfold fitsB
        by_cases h : xs.length ≤ 26
        · simp [h]; omega
        · simp [h]; omega
      obtain ⟨xl, hxl⟩ : ∃ xl, xs.length = xl := ⟨_, rfl⟩
      have HXL2 := Lib.hid hxl
      rw [hxl] at hfit hcx5 hxr5
      by_cases hroom : n < sz
      · by_cases h26 : xl ≤ 26
        · have had := c_addA hR5 hP5 hI5 (by omega) hrb hgb hrg hroom (by omega) (by decide) hRs.fr.goes Ax xl cx xs hxr5 (by omega) (by omega) true (by rw [hfit]; exact decide_eq_true h26) (fun _ => (hRs.fr.write _ _).goes)
          simp only [if_true] at had
          have HAD := Lib.hid had
          have hRs2 := hRs.add (by omega) 1 n xs (by rw [hxl, hfit]; exact decide_eq_true h26)
          have hst := rst (D := D) (key := key) (boot := 1) (seq := n) (at_ := 5) (n := n) (e := 1) (rec := xs) HKT.out
          have HST := Lib.hid hst
          have h26i : (xl : Int) ≤ 26 := by omega
          have hnz : (n : Int) < (sz : Int) := by omega
          clear h26 hfit hxl hxr5 had hst hRs
          generalize (addWr D key 1 n 5 n 1 xs).flush = D2 at *
          go_upto_region 14 with (go_at_call 38; (with_reducible refine HAD.out.mono ?_); rintro e w6 ⟨rfl, hI6, hP6, hR6, hp6⟩)
          have hB6 := hB5.trans hp6.1
          have HSI := Lib.hid (c_sinceG hI6 (by omega) k 2 HST.out.len)
          clear HAD hp6 hI5 hP5 hR5 hB5 hcx5
          go_upto_region 15 with (go_at_call 48; (with_reducible refine HSI.out.mono ?_); rintro e w7 ⟨⟨A7, c7, rfl, hs7'⟩, hI7, hb7⟩)
          have hP7 := hP6.below hb7 hP6.lt
          have hR7 := hR6.below hb7 hR6.lt
          have hB7 := below_two hB6 hb7
          have hcx7 : w7.cell? (ad0.add i) = some (.slice Ax xl cx) := (hB7.cell hadl).trans (hc0.trans (by rw [HXL2.out]))
          obtain ⟨H1, B1, hev1⟩ := HST.out.ev
          obtain ⟨H2, B2, hev2⟩ := HST.out.fl
          obtain ⟨g', rfl, ck, ca⟩ := hs7' 0 _ hev1
          obtain ⟨g'', e2, cf, -⟩ := hs7' 1 _ hev2
          simp only [Option.some.injEq, Addr.mk.injEq, and_true] at e2
          subst e2
          simp only [Nat.add_zero] at ck ca
          rw [Nat.succ_mul] at cf
          obtain ⟨n1, hn1⟩ : ∃ n1, n + 1 = n1 := ⟨_, rfl⟩
          obtain ⟨pl, hpl⟩ : ∃ pl, 5 + n = pl := ⟨_, rfl⟩
          simp only [hpl] at ca
          have hw1 : (n : Int) + 1 = (n1 : Int) := by omega
          have hw2 : (5 : Int) + (n : Int) = (pl : Int) := by omega
          have hw3 : IntKind.i64.wrap (pl : Int) = (pl : Int) := IntWalk.i64_in _ (by omega)
          have hw4 : IntKind.i64.wrap (n1 : Int) = (n1 : Int) := IntWalk.i64_in _ (by omega)
          rw [hn1] at hRs2 hP7 hR7
          have hn1s : n1 ≤ sz := by omega
          have hn1i : n1 ≤ i + 1 := by omega
          clear HSI hI6 hP6 hR6 hB6 hb7 hs7' hev1 hev2 hn1 hpl HST
          go_wp2_with fail
          go_roundw
          case rel => exact ⟨i + 1, n1, D2, by omega, hn1i, hn1s, rfl, by go_num, hRs2, ⟨hI7.dk, hI7.le, hI7.bd.mono (by omega)⟩, hP7, hR7, hB7⟩
          case measure => simp [intOf]; omega
        · have HAD := Lib.hid (c_addA hR5 hP5 hI5 (by omega) hrb hgb hrg hroom (by omega) (by decide) hRs.fr.goes Ax xl cx xs hxr5 (by have := HXL.out; omega) (by omega) false (by rw [hfit]; exact decide_eq_false h26) (fun h => by cases h))
          simp only [Bool.false_eq_true, if_false] at HAD
          have hn26 : ¬ (xl : Int) ≤ 26 := by omega
          have hnz : (n : Int) < (sz : Int) := by omega
          clear h26 hfit hxl hxr5
          go_upto_region 14 with (go_at_call 38; (with_reducible refine HAD.out.mono ?_); rintro e w6 ⟨rfl, hI6, hP6, hR6, hp6⟩)
          have hB6 := hB5.trans hp6.1
          have hcx6 : w6.cell? (ad0.add i) = some (.slice Ax xl cx) := (hB6.cell hadl).trans (hc0.trans (by rw [HXL2.out]))
          have HSI := Lib.hid (c_sinceG hI6 (by omega) k 0 HKT.out)
          clear HAD hp6 hI5 hP5 hR5 hB5 hcx5
          go_upto_region 15 with (go_at_call 48; (with_reducible refine HSI.out.mono ?_); rintro e w7 ⟨⟨A7, c7, rfl, -⟩, hI7, hb7⟩)
          have hP7 := hP6.below hb7 hP6.lt
          have hR7 := hR6.below hb7 hR6.lt
          have hB7 := below_two hB6 hb7
          have hcx7 : w7.cell? (ad0.add i) = some (.slice Ax xl cx) := (hB7.cell hadl).trans (hc0.trans (by rw [HXL2.out]))
          clear HSI hI6 hP6 hR6 hB6 hcx6 hb7
          go_wp2_with fail
          go_roundw
          case rel => exact ⟨i + 1, n, D, by omega, by omega, hns, rfl, by go_num, hRs, ⟨hI7.dk, hI7.le, hI7.bd.mono (by omega)⟩, hP7, hR7, hB7⟩
          case measure => simp [intOf]; omega
      · have HAD := Lib.hid (c_addFull hR5 (by omega) Ax xl cx)
        have hnz : ¬ (n : Int) < (sz : Int) := by omega
        clear hfit hxl hxr5
        go_upto_region 14 with (go_at_call 38; (with_reducible refine HAD.out.mono ?_); rintro e w6 ⟨rfl, hb6⟩)
        have hI6 := hI5.below hb6
        have hP6 := hP5.below hb6 hP5.lt
        have hR6 := hR5.below hb6 hR5.lt
        have hB6 := below_two hB5 hb6
        have HSI := Lib.hid (c_sinceG hI6 (by omega) k 0 HKT.out)
        clear HAD hb6 hI5 hP5 hR5 hB5 hcx5
        go_upto_region 15 with (go_at_call 48; (with_reducible refine HSI.out.mono ?_); rintro e w7 ⟨⟨A7, c7, rfl, -⟩, hI7, hb7⟩)
        have hP7 := hP6.below hb7 hP6.lt
        have hR7 := hR6.below hb7 hR6.lt
        have hB7 := below_two hB6 hb7
        clear HSI hI6 hP6 hR6 hB6 hb7
        go_wp2_with fail
        go_roundw
        case rel => exact ⟨i + 1, n, D, by omega, by omega, hns, rfl, by go_num, hRs, ⟨hI7.dk, hI7.le, hI7.bd.mono (by omega)⟩, hP7, hR7, hB7⟩
        case measure => simp [intOf]; omega
    · have hor : ¬ (i : Int) < (l0 : Int) ∨ ((i : Int) < (l0 : Int) ∧ ¬ (i : Int) < 12) := by omega
      obtain ⟨k, hk⟩ : ∃ k, D.trace.length = k := ⟨_, rfl⟩
      have hkl := hIr.bd.ln
      rw [hk] at hkl
      have HKT := Lib.hid hk
      have HTR := Lib.hid (i_trace hIr (by omega))
      have hln := hRs.load hns hs7
      have HLN := Lib.hid hln
      clear hk hln
      rcases hor with q | ⟨q1, q2⟩
      all_goals
        go_upto_region 20 with (go_at_call 26; (with_reducible refine HTR.out.mono ?_); rintro e w5 ⟨vt, rfl, ht5, hI5, hb5⟩; (obtain ⟨ts9, -, -, ht6⟩ := ht5); (obtain ⟨A9, c9, rfl, -, -⟩ := own_form ht6); rw [HKT.out])
        have hP5 := hPr.below hb5 hPr.lt
        have hR5 := hRr.below hb5 hRr.lt
        have hB5 := below_two hBr hb5
        have hld := c_load hR5 hP5 hI5 (by omega) hRs.fr hrb hgb hrg (by omega) (by decide) 1
        rw [HLN.out] at hld
        simp only [show ((1 : Nat) : Int) = 1 from rfl] at hld
        have HLD := Lib.hid hld
        have hrl := reads_len D ((5 : Nat) : Int) sz
        have hre := fun j hj => reads_ev D ((5 : Nat) : Int) sz j hj
        rw [HKT.out] at hrl hre
        have HRL := Lib.hid hrl
        have HRE := Lib.hid hre
        clear hld hrl hre ht6 HTR hIr hPr hRr hBr hb5
        generalize readsD D ((5 : Nat) : Int) sz = D3 at *
        generalize loadN key D ((5 : Nat) : Int) 1 sz = L at *
        go_upto_region 21 with (go_at_call 40; (with_reducible refine HLD.out.mono ?_); rintro e w6 ⟨v6, rfl, hm6, hI6, hP6, hR6, hp6⟩)
        have hB6 := hB5.trans hp6.1
        have HSI := Lib.hid (c_sinceG hI6 (by omega) k sz HRL.out)
        clear HLD hp6 hI5 hP5 hR5 hB5 hm6
        go_upto_region 22 with (go_at_call 48; (with_reducible refine HSI.out.mono ?_); rintro e w7 ⟨⟨A7, c7, rfl, hs7'⟩, hI7, hb7⟩)
        have hR7 := hR6.below hb7 hR6.lt
        have hB7 := below_two hB6 hb7
        have HLE := Lib.hid (c_rLen hR7)
        have HSS := Lib.hid hs7'
        clear HSI hI6 hP6 hR6 hB6 hb7 hs7' hI7 hR7
        go_upto_region 25 with (go_at_call 41; (with_reducible refine HLE.out.mono ?_); rintro e w' ⟨rfl, rfl⟩)
        go_loop [15] (fun s15 => ∃ j : Nat, j ≤ sz ∧ s15 = .int .i64 (j : Int)) (fun s15 => (sz - intOf s15).toNat)
        case atStart => exact ⟨0, by omega, rfl⟩
        case round =>
          obtain ⟨j, hj, rfl⟩ := hrel
          by_cases hje : j < sz
          · obtain ⟨H1, hev⟩ := HRE.out j hje
            obtain ⟨g', rfl, ck, ca⟩ := HSS.out j _ hev
            have hjs : (j : Int) < (sz : Int) := by omega
            have hj0 : (0 : Int) ≤ (j : Int) := by omega
            obtain ⟨pl, hpl⟩ : ∃ pl : Int, ((5 : Nat) : Int) + (j : Int) = pl := ⟨_, rfl⟩
            simp only [hpl] at ca
            rw [Nat.add_mul] at ck ca
            have hw2 : (5 : Int) + (j : Int) = pl := by omega
            have hw3 : IntKind.i64.wrap pl = pl := IntWalk.i64_in _ (by omega)
            obtain ⟨j1, hj1⟩ : ∃ j1, j + 1 = j1 := ⟨_, rfl⟩
            have hji : (j : Int) + 1 = (j1 : Int) := by omega
            have hw4 : IntKind.i64.wrap (j1 : Int) = (j1 : Int) := IntWalk.i64_in _ (by omega)
            have hj1s : j1 ≤ sz := by omega
            have hjm : sz - j1 < sz - j := by omega
            clear hev hpl hj1
            go_wp2_with fail
            go_round
            case rel => exact ⟨j1, hj1s, rfl⟩
            case measure => simp [intOf]; omega
          · obtain rfl : j = sz := by omega
            go_wp2_with (go_at_call 36; (with_reducible refine (c_awake11 _).mono ?_); rintro e w10 ⟨rfl, hb10⟩)
            go_ret
            exact ⟨rfl, below_two hB7 hb10⟩
theorem w_RingSteps (a0 : Int) (a1 : Option Addr) (len1 cap1 : Nat) (w : World) (w0 : (Lit.int .i64 a0).wf = true) (w1 : IsMatS .u8 w a1 len1 cap1) :
    Calls Try.prog 11 #[.int .i64 a0, .slice a1 len1 cap1] w fun e w' => e = .returned (.bool true) ∧ Below w.heap.size w w' := by
  obtain ⟨xss, hM, hX⟩ := mat_bytesS w1
  exact w_rste0 a0 a1 len1 cap1 xss w hM hX
end Go.Proofs.Ytmdmhjcdaejlkaa
