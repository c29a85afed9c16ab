/- The walk of BankStates. -/
import Derived.Test.YtmdmhjcdaejlkaaAwk12
import Derived.Test.YtmdmhjcdaejlkaaBankF
import Derived.Test.YtmdmhjcdaejlkaaMask
import Derived.Test.YtmdmhjcdaejlkaaRow
set_option linter.unusedVariables false
set_option linter.unusedSimpArgs false
namespace Go.Proofs.Ytmdmhjcdaejlkaa
open Go.RowKit


set_option maxHeartbeats 16000000 in
set_option maxRecDepth 100000 in
theorem w_bsta0 (x0 : Int) (A0 : Option Addr) (l0 c0 : Nat) (xs : List UInt8) (w : World) (hR : RdB w A0 l0 xs) (hl0 : l0 ≤ 9223372036854775807) :
    Calls Try.prog 13 #[.int .i64 x0, .slice A0 l0 c0] w fun e w' => e = .returned (.bool true) ∧ Below w.heap.size w w' := by
  have hm := m63 x0
  obtain ⟨n, hn⟩ : ∃ n : Nat, x0 % 64 = (n : Int) := ⟨(x0 % 64).toNat, by omega⟩
  have hn63 : n ≤ 63 := by omega
  rw [hn] at hm
  clear hn
  have hxl := hR.len
  go_enter Try.func13, Try.ntmps13
  by_cases hbig : (100 : Int) < (l0 : Int)
  · clear hm hR hl0
    go_wp2_with fail
    refine (c_awake12 w).mono ?_
    rintro e w1 ⟨rfl, hb⟩
    go_wp2_with fail
    go_ret
    exact ⟨rfl, hb⟩
  have hl1 : l0 ≤ 100 := by omega
  clear hl0
  go_wp2_with fail
  refine (i_new 130 40 w (by decide) (by decide)).mono ?_
  rintro e w1 ⟨b, rfl, hI, hB⟩
  obtain ⟨key, hkey⟩ : ∃ key : List UInt8, key = List.replicate 32 0 := ⟨_, rfl⟩
  have hk32 : key.length = 32 := by rw [hkey]; rfl
  have hkv : (#[.int .u8 0, .int .u8 0, .int .u8 0, .int .u8 0, .int .u8 0, .int .u8 0, .int .u8 0, .int .u8 0, .int .u8 0, .int .u8 0, .int .u8 0, .int .u8 0, .int .u8 0, .int .u8 0, .int .u8 0, .int .u8 0, .int .u8 0, .int .u8 0, .int .u8 0, .int .u8 0, .int .u8 0, .int .u8 0, .int .u8 0, .int .u8 0, .int .u8 0, .int .u8 0, .int .u8 0, .int .u8 0, .int .u8 0, .int .u8 0, .int .u8 0, .int .u8 0] : Array Value) = (bv key).toArray := by rw [hkey]; rfl
  have hn1 := p_new b key hk32 1 (by decide) w1
  rw [hkv.symm] at hn1
  simp only [show ((1 : Nat) : Int) = 1 from rfl] at hn1
  have HN1 := Lib.hid hn1
  clear hkey hkv hn1 hk32
  generalize dkNew 130 40 = D0 at *
  go_wp2_with fail
  refine HN1.out.mono ?_
  rintro e w2 ⟨g, rfl, hP, hg, hb2⟩
  have hI2 := hI.below hb2
  have hgb : w.heap.size ≤ g := Nat.le_trans hI.le hg
  have hB2 := below_two hB hb2
  clear HN1 hI hB hb2 hg
  have hbn := c_bkNew g 0 n (by omega) w2
  simp only [show ((0 : Nat) : Int) = 0 from rfl] at hbn
  have HBN := Lib.hid hbn
  clear hbn
  go_wp2_with fail
  refine HBN.out.mono ?_
  rintro e w3 ⟨gB, gp, rfl, hK, hgB, hgp, hb3⟩
  obtain ⟨l, hl⟩ : ∃ l, List.replicate n (true, false) = l := ⟨_, rfl⟩
  rw [hl] at hK
  have hll : l.length = n := by rw [← hl]; simp
  have k3 : Bk w3 w.heap.size b 0 D0 g key 1 0 gB gp 0 l := ⟨hI2.below hb3, hP.below hb3 hP.lt, hK, hgb, Nat.le_trans hI2.le hgp⟩
  have hB3 := below_two hB2 hb3
  clear HBN hI2 hP hK hgB hgp hb3 hB2 hgb hl
  have HA := Lib.hid (b_state k3 (by omega))
  go_upto_region 9 with (go_at_call 51; (with_reducible refine HA.out.mono ?_); rintro e w4 ⟨vs, rfl, os4, k4, hb4⟩)
  have hB4 := below_two hB3 hb4
  clear HA k3 hB3 hb4
  have hR4 : RdB w4 A0 l0 xs := hR.below hB4 (Nat.le_refl _)
  have HRw := Lib.hid hR
  clear hR
  obtain ⟨As, cs, rfl, -, -, hRs⟩ := os4.form
  have hsl : (stL l).length = (n + 7) / 8 := by rw [stL_length, hll]
  obtain ⟨m0, hm0⟩ : ∃ m0, (n + 7) / 8 = m0 := ⟨_, rfl⟩
  have e1 : IntKind.i64.wrap ((n : Int) + 7) = (n : Int) + 7 := IntWalk.i64_in _ (by omega)
  have e6 : IntKind.i64.wrap (((n : Int) + 7).tdiv 8) = (m0 : Int) := by rw [show ((n : Int) + 7).tdiv 8 = (m0 : Int) by rw [Int.tdiv_eq_ediv_of_nonneg (by omega)]; omega]; exact IntWalk.i64_in _ (by omega)
  have e7 : ((l0 : Int) == (m0 : Int)) = lpOk n xs n := by
    rw [lpOk_first, hxl, hm0]
    exact Bool.eq_iff_iff.2 ⟨fun h => decide_eq_true (by have := eq_of_beq h; omega), fun h => by have := of_decide_eq_true h; rw [this]; exact beq_self_eq_true _⟩
  rw [hsl, hm0] at hRs os4 ⊢
  go_upto_region 10 with fail
  have hE0 : lpOk n xs n = false → okLd n xs = false := fun h => by
    rw [lpOk_first] at h
    exact decide_eq_false fun hc => of_decide_eq_false h hc.1
  have hB0 : lpOk n xs n = true → n ≤ 8 * l0 := fun h => by
    rw [lpOk_first] at h
    have := of_decide_eq_true h
    omega
  have HF := Lib.hid (And.intro hE0 hB0)
  clear e7
  generalize hok : lpOk n xs n = ok0 at *
  have HOK := Lib.hid hok
  clear hok hE0 hB0 hRs
  go_wp2_with fail
  go_loopw [8, 9] (fun s8 s9 wr => ∃ (k : Nat) (o : Bool), s8 = .bool o ∧ s9 = .int .i64 (k : Int) ∧ n ≤ k ∧ lpOk n xs k = o ∧ (o = true → k ≤ 8 * l0) ∧ (o = false → okLd n xs = false) ∧ wr = w4) (fun _ s9 _ => 8 * l0 + 1 - (intOf s9).toNat)
  case atStart => exact ⟨n, ok0, rfl, rfl, Nat.le_refl _, HOK.out, HF.out.2, HF.out.1, rfl⟩
  case round =>
    obtain ⟨k, o, rfl, rfl, hnk, hlp, hk8, hno, rfl⟩ := hrel
    have HNO := Lib.hid hno
    have HLP := Lib.hid hlp
    clear hno hlp
    cases o
    · clear hk8
      have HLN := Lib.hid (c_bkLoadNo k4.k (by omega) A0 l0 c0 xs hR4 (by omega) (by rw [hll]; exact HNO.out rfl))
      clear hR4 HNO HLP
      go_wp2_with fail
      refine HLN.out.mono ?_
      rintro e w5 ⟨rfl, hb5⟩
      have os5 := os4.below hb5
      have k5 := k4.up hb5
      have hB5 := below_two hB4 hb5
      clear HLN os4 k4 hB4 hb5
      have HA := Lib.hid (b_state k5 (by omega))
      go_wp2_with fail
      refine HA.out.mono ?_
      rintro e w6 ⟨vt, rfl, ot6, k6, hb6⟩
      have hB6 := below_two hB5 hb6
      have os6 := os5.below hb6
      clear HA k5 hB5 hb6 os5 k6
      have hlen := hsl.trans hm0
      obtain ⟨A1, c1, eA, -, -, r1⟩ := os6.form
      rw [hlen] at eA r1
      cases eA
      obtain ⟨A2, c2, rfl, -, -, r2⟩ := ot6.form
      rw [hlen] at r2 ⊢
      have HSM2 := Lib.hid (c_rSame w6 A2 As _ _ c2 cs _ _ r2 r1 true (beq_self_eq_true _))
      clear os6 ot6
      go_wp2_with (first | (go_at_call 25; (with_reducible refine HSM2.out.mono ?_); rintro e w7 ⟨rfl, hb7⟩; subst hb7) | (go_at_call 50; (with_reducible refine (c_awake12 _).mono ?_); rintro e w8 ⟨rfl, hb8⟩))
      go_ret
      exact ⟨rfl, below_two hB6 hb8⟩
    · have hk8 := hk8 rfl
      have h8 : IntKind.i64.wrap (8 * (l0 : Int)) = 8 * (l0 : Int) := IntWalk.i64_in _ (by omega)
      by_cases hc : (k : Int) < 8 * (l0 : Int)
      · obtain ⟨q, hq⟩ : ∃ q, k / 8 = q := ⟨_, rfl⟩
        obtain ⟨r, hrr⟩ : ∃ r, k % 8 = r := ⟨_, rfl⟩
        have hqm : q < l0 := by omega
        have hr8 : r < 8 := by omega
        obtain ⟨ad, rfl, hcl⟩ := hR4.2 (by omega)
        obtain ⟨x, hx⟩ : ∃ x, xs[q]? = some x := ⟨_, List.getElem?_eq_getElem (by omega)⟩
        have hcx : wr.cell? (ad.add q) = some (.int .u8 (x.toNat : Int)) := hcl q _ (by simp [bv_get, hx])
        have hbit : bitN xs k = decide (x.toNat / 2 ^ r % 2 = 1) := by unfold bitN; rw [hq, hrr, hx]; rfl
        have hand := and_bit x r
        have q1 : (k : Int).tdiv 8 = (q : Int) := by rw [Int.tdiv_eq_ediv_of_nonneg (by omega)]; omega
        have q1b : IntKind.i64.wrap ((k : Int).tdiv 8) = (q : Int) := by rw [q1]; exact IntWalk.i64_in _ (by omega)
        have q3 : bits .and .i64 (k : Int) 7 = (r : Int) := by rw [m7]; omega
        have q4 : IntKind.u64.wrap (r : Int) = (r : Int) := IntWalk.u64_in _ (by omega)
        have hqi : (q : Int) < (l0 : Int) := by omega
        have hw1 : IntKind.i64.wrap ((k : Int) + 1) = (k : Int) + 1 := IntWalk.i64_in _ (by omega)
        have hstep := lpOk_step n xs k hnk HLP.out
        have hfin : ((((x.toNat / 2 ^ r % 2 : Nat) : Int)) == 0) = lpOk n xs (k + 1) := by
          rw [hstep, hbit]
          rcases Nat.mod_two_eq_zero_or_one (x.toNat / 2 ^ r) with e | e <;> rw [e] <;> rfl
        obtain ⟨bt, hbt⟩ : ∃ bt : Int, ((x.toNat / 2 ^ r % 2 : Nat) : Int) = bt := ⟨_, rfl⟩
        rw [hbt] at hand hfin
        clear hbt
        have HN2 := Lib.hid (fun h : lpOk n xs (k + 1) = false => lpOk_no n xs (k + 1) (by omega) h)
        have HR4 := Lib.hid hR4
        clear hbit hstep hcl hx hq hrr hR4
        obtain ⟨o2, ho2⟩ : ∃ o2, lpOk n xs (k + 1) = o2 := ⟨_, rfl⟩
        rw [ho2] at hfin HN2
        have HO2 := Lib.hid ho2
        clear ho2
        go_wp2_with fail
        go_roundw
        case rel => exact ⟨k + 1, o2, by rw [← hfin], by go_num, by omega, HO2.out, fun _ => by omega, HN2.out, trivial⟩
        case measure => simp [intOf]; omega
      · have hok : okLd n xs = true := by
          have := lpOk_last n xs (((lpOk_iff _ _ _).1 HLP.out).1)
          rw [hxl] at this
          rw [← this, ← HLP.out]
          congr 1
          omega
        have HK := Lib.hid hok
        clear hok hk8
        have HLN := Lib.hid (c_bkLoad k4.k k4.p k4.i k4.hgp (by omega) A0 l0 c0 xs (fun w' hp => HRw.out.below (hB4.trans hp.1) (Nat.le_refl _)) (by omega) (by rw [hll]; exact HK.out))
        go_wp2_with fail
        refine HLN.out.mono ?_
        rintro e w5 ⟨rfl, hI5, hK5, hP5, hp5⟩
        have k5 : Bk w5 w.heap.size b 0 D0 g key 1 0 gB gp 0 (ldL l.length xs) := ⟨hI5, hP5, hK5, k4.hg, k4.hgp⟩
        have os5 := os4.pxB hp5 k4.foreign1
        have hB5 := hB4.trans hp5.1
        have hR5 : RdB w5 A0 l0 xs := HRw.out.below hB5 (Nat.le_refl _)
        clear HLN os4 k4 hB4 hp5 hR4 hI5 hK5 hP5
        have HA := Lib.hid (b_state k5 (by rw [ldL_length]; omega))
        rw [hll, st_ld _ _ HK.out] at HA
        go_wp2_with fail
        refine HA.out.mono ?_
        rintro e w6 ⟨vt, rfl, ot6, k6, hb6⟩
        have hB6 := below_two hB5 hb6
        have hR6 : RdB w6 A0 l0 xs := HRw.out.below hB6 (Nat.le_refl _)
        clear HA k5 hB5 hb6 os5 k6 hR5
        obtain ⟨A2, c2, rfl, -, -, r2⟩ := ot6.form
        rw [hxl] at r2 ⊢
        have HSM2 := Lib.hid (c_rSame w6 A2 A0 l0 l0 c2 c0 _ _ r2 hR6 true (beq_self_eq_true _))
        clear ot6
        go_wp2_with (first | (go_at_call 25; (with_reducible refine HSM2.out.mono ?_); rintro e w7 ⟨rfl, hb7⟩; subst hb7) | (go_at_call 50; (with_reducible refine (c_awake12 _).mono ?_); rintro e w8 ⟨rfl, hb8⟩))
        go_ret
        exact ⟨rfl, below_two hB6 hb8⟩
theorem w_BankStates (a0 : Int) (a1 : Option Addr) (len1 cap1 : Nat) (z1 : List Int) (w : World) (w0 : (Lit.int .i64 a0).wf = true) (w1 : IsRow .u8 w a1 len1 cap1 z1) :
    Calls Try.prog 13 #[.int .i64 a0, .slice a1 len1 cap1] w fun e w' => e = .returned (.bool true) ∧ Below w.heap.size w w' := by
  obtain ⟨xs, hR, hm⟩ := row_bytes w1
  exact w_bsta0 a0 a1 len1 cap1 xs w hR hm
end Go.Proofs.Ytmdmhjcdaejlkaa
