/- The walk of RingPower. -/
import Derived.Test.YtmdmhjcdaejlkaaRingG
import Derived.Test.YtmdmhjcdaejlkaaRow
import Derived.Test.YtmdmhjcdaejlkaaMask
set_option linter.unusedVariables false
set_option linter.unusedSimpArgs false
namespace Go.Proofs.Ytmdmhjcdaejlkaa
open Go.RowKit

theorem Out.mono {base B B' b nn g r g12 g13 : Nat} {key : List UInt8} {ok : Bool} {w : World} (h : Out base B b nn g r g12 g13 key ok w) (hB : B' ≤ B) : Out base B' b nn g r g12 g13 key ok w := by
  obtain ⟨n, q, D', La, h1, h2, h3, h4⟩ := h
  obtain ⟨va, a1, vs, a2, a3, a4⟩ := h2.al
  exact ⟨n, q, D', La, h1, ⟨h2.dv, h2.pn, h2.rg, h2.n12, va, a1, vs, a2, a3, own_mono a4 hB⟩, h3, h4⟩
theorem Out.setB {base B b nn g r g12 g13 k : Nat} {key : List UInt8} {ok : Bool} {w : World} (h : Out base B b nn g r g12 g13 key ok w) (hk : base ≤ k) (hr : Row w k #[.bool false] 4) (v : Value) : Out base B b nn g r g12 g13 key ok (w.setCell ⟨k, 0, none⟩ v) := by
  obtain ⟨n, q, D', La, h1, h2, h3, h4⟩ := h
  exact ⟨n, q, D', La, h1, h2.setB hk hr v, h3, h4⟩
theorem Out.below {base B b nn g r g12 g13 : Nat} {key : List UInt8} {ok : Bool} {w w' : World} (h : Out base B b nn g r g12 g13 key ok w) (hb : Below w.heap.size w w') : Out base B b nn g r g12 g13 key ok w' := by
  obtain ⟨n, q, D', La, h1, h2, h3, h4⟩ := h
  exact ⟨n, q, D', La, h1, h2.below hb, h3, h4⟩
theorem PX.of_dr {base : Nat} {W W' : World} (hd : DR dTy base W W') : PX [] base W W' := ⟨hd.below, fun k c T hr hT _ => hr.dr hd hT⟩
variable {W : World} {base b nn g r g5 g11 g12 g13 : Nat} {D : Dk} {key : List UInt8}
set_option maxHeartbeats 2000000 in
theorem t_rpow {w : World} {l1 c1 : Nat} {A1 : Option Addr} {xss : List (List UInt8)} (hM : Mat w A1 l1 xss) (hwb : w.heap.size ≤ base) (hWw : Below w.heap.size w W) (c m : Nat) (hm : min l1 16 = m)
    (hRg : Rg key D []) (haf : AfS D (c : Int)) (hI : In W base b D nn) (hP : PenAt W g b key 1 0) (hR : RingAt W r g 2 16 7 0) (r5 : Row W g5 #[.slice A1 l1 c1] 40) (r11 : Row W g11 #[.pointer (some ⟨r, 0, none⟩)] 59) (r12 : Row W g12 #[.int .i64 0] 3) (r13 : Row W g13 #[.slice none 0 0] 40)
    (hn : nn ≤ 600000) (hgb : base ≤ g) (hrb : base ≤ r) (h12 : base ≤ g12) (h13 : base ≤ g13) (h513 : g5 ≠ g13) :
    Calls Try.prog 44 #[.func (Fn.func 56) #[] #[.pointer (some ⟨g5, 0, none⟩), .pointer (some ⟨g13, 0, none⟩), .pointer (some ⟨g11, 0, none⟩), .pointer (some ⟨g12, 0, none⟩)]] W fun e w' => ∃ ok : Bool, e = .returned (.bool ok) ∧ PX [g, r, g12, g13] base W w' ∧ Out base base b (nn + 40) g r g12 g13 key ok w' := by
  have hX : ∀ x ∈ [g, r, g12, g13], x < W.heap.size := by
    intro x hx
    simp only [List.mem_cons, List.not_mem_nil, or_false] at hx
    rcases hx with rfl | rfl | rfl | rfl
    · exact hP.lt
    · exact hR.lt
    · exact r12.lt
    · exact r13.lt
  have hcl : ∀ (ok : Bool), (if ok = true then 2 * m ≤ c else c < 2 * m) → ∀ W0, Below W.heap.size W W0 → Calls Try.prog 56 #[.pointer (some ⟨g5, 0, none⟩), .pointer (some ⟨g13, 0, none⟩), .pointer (some ⟨g11, 0, none⟩), .pointer (some ⟨g12, 0, none⟩)] W0 fun e w' => e = endOf ok ∧ PX [g, r, g12, g13] base W0 w' ∧ Out base base b (nn + 40) g r g12 g13 key ok w' := fun ok hcm W0 hb0 =>
    (c_rpow hM hwb (below_two hWw hb0) ok c m hm hcm hRg haf ⟨hI.below hb0, hP.below hb0 hP.lt, hR.below hb0 hR.lt, r12.below hb0 r12.lt, _, r13.below hb0 r13.lt, HaveM.nil_ _ _ _⟩ (r5.below hb0 r5.lt) (r11.below hb0 r11.lt) hn hgb hrb h12 h13 (Nat.le_trans hI.le hb0.size) rfl h513).mono (fun e w' ⟨q1, q2, q3⟩ => ⟨q1, q2, q3.mono (Nat.le_trans hI.le hb0.size)⟩)
  by_cases hcm : 2 * m ≤ c
  · refine (px2_tryOk (X := [g, r, g12, g13]) (R := fun w => Out base base b (nn + 40) g r g12 g13 key true w) (fun _ => by kernel_rfl) hI.le hX (fun w v hr h => h.setB hI.le hr v) (fun W0 hb0 => (hcl true (by simpa using hcm) W0 hb0).mono fun e w' h => h)).mono ?_
    rintro e w' ⟨rfl, h1, h2⟩
    exact ⟨true, rfl, h1, h2⟩
  · refine (px2_tryGone (X := [g, r, g12, g13]) (R := fun w => Out base base b (nn + 40) g r g12 g13 key false w) (fun _ => by kernel_rfl) hI.le hX (fun w v hle hr h => (h.below (below_alloc (Below.refl _ _) _)).setB hI.le (hr.alloc _) v) (fun W0 hb0 => (hcl false (by simpa using hcm) W0 hb0).mono fun e w' h => h)).mono ?_
    rintro e w' ⟨rfl, h1, h2⟩
    exact ⟨false, rfl, h1, h2⟩
theorem row_intsP {w : World} {a : Option Addr} {len cap : Nat} {zs : List Int} (h : IsRow .i64 w a len cap zs) : ∃ xs : List Int, Rd w a len (iv xs) ∧ len ≤ maxLen ∧ len ≤ cap ∧ ∀ x ∈ xs, -9223372036854775808 ≤ x ∧ x ≤ 9223372036854775807 := by
  rcases h with ⟨rfl, rfl, rfl, rfl⟩ | ⟨x, rfl, hl, hm, hz, hc, hw⟩
  · exact ⟨[], Rd.nil_ _ _, Nat.zero_le _, Nat.le_refl _, fun x hx => by cases hx⟩
  · refine ⟨zs.take len, ⟨by simp [iv]; omega, fun _ => ⟨x, rfl, fun j v hv => ?_⟩⟩, Nat.le_trans hl hm, hl, fun y hy => ?_⟩
    · rw [iv_get, List.getElem?_take] at hv
      split at hv
      · rename_i hj
        have hj' : j < zs.length := by omega
        rw [List.getElem?_eq_getElem hj'] at hv
        cases hv
        have := hc j hj'
        rwa [List.getD_eq_getElem?_getD, List.getElem?_eq_getElem hj'] at this
      · cases hv
    · have h := hw y (List.mem_of_mem_take hy)
      simp [Lit.wf, IntKind.min, IntKind.max, IntKind.bits, IntKind.signed] at h
      omega
theorem own_intP {W : World} {B : Nat} {A : Option Addr} {n c : Nat} {xs : List Int} (h : OwnI W B (.slice A n c) xs) (base : Nat) : ∀ ad, A = some ad → 0 < n → ad.block < base ∨ ∃ cs fr, W.heap[ad.block]? = some (.cells cs 3 fr) := by
  intro ad e hn
  rcases h.2 with ⟨h0, h1⟩ | ⟨g, cap, cur, hv, hB, hrow, h5, h6, h7, h8⟩
  · simp only [Value.slice.injEq] at h0
    omega
  · simp only [Value.slice.injEq] at hv
    obtain ⟨rfl, -, -⟩ := hv
    cases e
    exact .inr ⟨_, _, hrow⟩
set_option maxHeartbeats 1000000 in
theorem c_l10bP (key : List UInt8) (hk : key.length = 32) (bo : Bool) (hbo : (openL key (List.replicate 80 0)).isSome = bo) (W : World) :
    Calls Try.prog 42 #[.agg (bv key).toArray] W fun e w' => e = .returned (.bool bo) ∧ Below W.heap.size W w' := by
  have HK := Lib.hid hk
  have r1 := Row.new W (bv key).toArray 22
  have hB0 := below_alloc (Below.refl W.heap.size W) (.cells (bv key).toArray 22)
  go_enter Try.func42, Try.ntmps42
  go_upto_region 1 with fail
  generalize W.alloc (.cells (bv key).toArray 22) = w1 at *
  have HBK := Lib.hid (c_blank10 key hk 80 (by decide) 80 rfl bo hbo w1)
  clear hbo hk
  go_wp2_with (first | (first | (apply wpl_loadS (ty := 22); rfl; rfl; rfl; kernel_rfl; exact r1; (simp only [List.size_toArray, bv_length, HK.out]; kernel_rfl); simp only [Act.put, List.setIfInBounds_toArray, List.set_cons_zero, List.set_cons_succ])) | (go_at_call 30; (with_reducible refine HBK.out.mono ?_); rintro e w3 ⟨rfl, hb3⟩))
  go_ret
  exact ⟨rfl, below_two hB0 hb3⟩
set_option maxHeartbeats 16000000 in
set_option maxRecDepth 100000 in
theorem w_rpow0 (key : List UInt8) (hk : key.length = 32) (A1 A3 : Option Addr) (l1 c1 l3 c3 : Nat) (xss : List (List UInt8)) (x2 : Int) (us : List Int) (w : World) (hM : Mat w A1 l1 xss) (hR3 : Rd w A3 l3 (iv us)) (hu : ∀ x ∈ us, -9223372036854775808 ≤ x ∧ x ≤ 9223372036854775807) :
    Calls Try.prog 15 #[.agg (bv key).toArray, .slice A1 l1 c1, .int .i64 x2, .slice A3 l3 c3] w fun e w' => e = .returned (.bool true) ∧ Below w.heap.size w w' := by
  have hmf : ∀ (fn : Fn) (first cap : Array Value) (w : World), (Instr.makeFunc fn first cap).run Try.prog w = .ok (.func fn first cap) w := fun _ _ _ _ => rfl
  have HK := Lib.hid hk
  have HM := Lib.hid hM
  have HU := Lib.hid hu
  have HR3 := Lib.hid hR3
  have hm31 := m31 x2
  obtain ⟨c, hc⟩ : ∃ c : Nat, x2 % 32 = (c : Int) := ⟨(x2 % 32).toNat, by omega⟩
  have hc31 : c ≤ 31 := by omega
  rw [hc] at hm31
  obtain ⟨m, hm⟩ : ∃ m, min l1 16 = m := ⟨_, rfl⟩
  have HMM := Lib.hid hm
  have ra := (Row.new w (bv key).toArray 22).alloc (.cells #[.slice A1 l1 c1] 40)
  have rb : Row ((w.alloc (.cells (bv key).toArray 22)).alloc (.cells #[.slice A1 l1 c1] 40)) (w.heap.size + 1) #[.slice A1 l1 c1] 40 := by
    have h := Row.new (w.alloc (.cells (bv key).toArray 22)) #[.slice A1 l1 c1] 40
    have e : (w.alloc (.cells (bv key).toArray 22)).heap.size = w.heap.size + 1 := by simp
    rwa [e] at h
  have hB0 := below_alloc (below_alloc (Below.refl w.heap.size w) (.cells (bv key).toArray 22)) (.cells #[.slice A1 l1 c1] 40)
  have hlB : w.heap.size + 1 < ((w.alloc (.cells (bv key).toArray 22)).alloc (.cells #[.slice A1 l1 c1] 40)).heap.size := by simp
  clear hk hM hu hR3 hc hm
  go_enter Try.func15, Try.ntmps15
  go_upto_region 1 with fail
  generalize (w.alloc (.cells (bv key).toArray 22)).alloc (.cells #[.slice A1 l1 c1] 40) = w0 at *
  obtain ⟨g5, hg5⟩ : ∃ g5, w.heap.size + 1 = g5 := ⟨_, rfl⟩
  rw [hg5] at rb hlB ⊢
  have hwg5 : w.heap.size < g5 := by omega
  clear hg5
  generalize hBs : w0.heap.size = bs at *
  have HNW := Lib.hid (i_new 20 80 w0 (by decide) (by decide))
  rw [hBs] at HNW
  clear hBs
  have hlw : w.heap.size < bs := by omega
  go_upto_region 2 with (go_at_call 17; (with_reducible refine HNW.out.mono ?_); rintro e w1 ⟨b, rfl, hI, hb1⟩)
  have r1 := ra.below hb1 hlw
  have q5 := rb.below hb1 hlB
  have hB1 := hB0.trans (hb1.mono (Nat.le_of_lt hlw))
  have hn1 := p_new b key HK.out 1 (by decide) w1
  simp only [show ((1 : Nat) : Int) = 1 from rfl] at hn1
  have HN1 := Lib.hid hn1
  clear hn1 HNW hb1 ra rb hB0
  go_upto_region 3 with (first | (first | (apply wpl_loadS (ty := 22); rfl; rfl; rfl; kernel_rfl; exact r1; (simp only [List.size_toArray, bv_length, HK.out]; kernel_rfl); simp only [Act.put, List.setIfInBounds_toArray, List.set_cons_zero, List.set_cons_succ])) | (go_at_call 18; (with_reducible refine HN1.out.mono ?_); rintro e w2 ⟨g, rfl, hP, hg, hb2⟩))
  have hgb : bs ≤ g := Nat.le_trans hI.le hg
  have hI2 := hI.below hb2
  have r2 := r1.below hb2 r1.lt
  have p5 := q5.below hb2 q5.lt
  have hB2 := below_two hB1 hb2
  clear HN1 hI r1 q5 hB1 hb2 hg
  go_upto_region 4 with (go_at_call 35; (with_reducible refine (c_rNew g 2 16 2 16 rfl rfl w2).mono ?_); rintro e w3 ⟨r, rfl, hRg, hr, hb3⟩)
  have hrb : bs ≤ r := Nat.le_trans hI2.le hr
  have hrg : r ≠ g := by have := hP.lt; omega
  have hI3 := (hI2.below hb3).alloc (.cells #[.pointer (some ⟨r, 0, none⟩)] 59)
  have hP3 : PenAt (w3.alloc (.cells #[.pointer (some ⟨r, 0, none⟩)] 59)) g b key 1 0 := ⟨(hP.below hb3 hP.lt).row.alloc _, hP.kl, hP.bl⟩
  have hR3' : RingAt (w3.alloc (.cells #[.pointer (some ⟨r, 0, none⟩)] 59)) r g 2 16 0 0 := ⟨hRg.row.alloc _⟩
  have r3 := (r2.below hb3 r2.lt).alloc (.cells #[.pointer (some ⟨r, 0, none⟩)] 59)
  have q5 := (p5.below hb3 p5.lt).alloc (.cells #[.pointer (some ⟨r, 0, none⟩)] 59)
  have r11 := Row.new w3 #[.pointer (some ⟨r, 0, none⟩)] 59
  have hB3 := below_alloc (below_two hB2 hb3) (.cells #[.pointer (some ⟨r, 0, none⟩)] 59)
  have h11b : bs ≤ w3.heap.size := (hI2.below hb3).le
  clear hb3 hr hI2 hP hB2 r2 p5 hRg
  generalize w3.alloc (.cells #[.pointer (some ⟨r, 0, none⟩)] 59) = w4 at *
  generalize w3.heap.size = g11 at *
  have k11 : w4.cell? ⟨g11, 0, none⟩ = some (.pointer (some ⟨r, 0, none⟩)) := r11.cell 0 rfl
  obtain ⟨bo, hbo⟩ : ∃ bo, (openL key (List.replicate 80 0)).isSome = bo := ⟨_, rfl⟩
  have HBK := Lib.hid (c_l10bP key HK.out bo hbo w4)
  have HBO := Lib.hid hbo
  clear hbo
  cases bo with
  | true =>
    go_upto_region 7 with (first | (first | (apply wpl_loadS (ty := 22); rfl; rfl; rfl; kernel_rfl; exact r3; (simp only [List.size_toArray, bv_length, HK.out]; kernel_rfl); simp only [Act.put, List.setIfInBounds_toArray, List.set_cons_zero, List.set_cons_succ])) | (go_at_call 42; (with_reducible refine HBK.out.mono ?_); rintro e w5 ⟨rfl, hb5⟩))
    have hB5 := below_two hB3 hb5
    clear HBK r3 hI3 hP3 hR3' hB3 hb5 HBO r11 k11 q5
    go_wp2_with (go_at_call 36; (with_reducible refine (c_awake11 _).mono ?_); rintro e w6 ⟨rfl, hb6⟩)
    go_ret
    exact ⟨rfl, below_two hB5 hb6⟩
  | false =>
    have hbn : openL key (List.replicate 80 0) = none := by
      have hbo := HBO.out
      cases h : openL key (List.replicate 80 0) with
      | none => rfl
      | some x => rw [h] at hbo; cases hbo
    have hrg0 := rg_new hbn
    have HRG := Lib.hid hrg0
    clear HBO hbn hrg0
    go_upto_region 8 with (first | (first | (apply wpl_loadS (ty := 22); rfl; rfl; rfl; kernel_rfl; exact r3; (simp only [List.size_toArray, bv_length, HK.out]; kernel_rfl); simp only [Act.put, List.setIfInBounds_toArray, List.set_cons_zero, List.set_cons_succ])) | (go_at_call 42; (with_reducible refine HBK.out.mono ?_); rintro e w5 ⟨rfl, hb5⟩))
    have hI5 := hI3.below hb5
    have hP5 := hP3.below hb5 hP3.lt
    have hR5 := hR3'.below hb5 hR3'.lt
    have r5 := r3.below hb5 r3.lt
    have p5 := q5.below hb5 q5.lt
    have s11 := r11.below hb5 r11.lt
    have hB5 := below_two hB3 hb5
    clear HBK r3 hI3 hP3 hR3' hB3 hb5 r11 k11 q5
    have hfd0 : (dkNew 20 80).off = false := rfl
    have HFD := Lib.hid hfd0
    clear hfd0
    generalize dkNew 20 80 = D0 at *
    have k11 : w5.cell? ⟨g11, 0, none⟩ = some (.pointer (some ⟨r, 0, none⟩)) := s11.cell 0 rfl
    have hst := c_rStart hR5 hI5 hP5 hrb (Ne.symm hrg) 7
    simp only [show ((7 : Nat) : Int) = 7 from rfl] at hst
    have HST := Lib.hid hst
    clear hst
    go_upto_region 9 with (go_at_call 37; (with_reducible refine HST.out.mono ?_); rintro e w6 ⟨rfl, hR6, hI6, hP6, hp6⟩)
    have hnX : ∀ {k cc T}, Row w5 k cc T → T ≠ 108 → k ∉ [r] := fun h1 hT hx => by
      simp only [List.mem_singleton] at hx
      subst hx
      exact hT (row_type h1 hR5.row)
    have r6 := hp6.2 _ _ _ r5 (by decide) (hnX r5 (by decide))
    have q5 := hp6.2 _ _ _ p5 (by decide) (hnX p5 (by decide))
    have q11 := hp6.2 _ _ _ s11 (by decide) (hnX s11 (by decide))
    have hB6 := hB5.trans (hp6.1.mono (Nat.le_of_lt hlw))
    have HCU := Lib.hid (i_cut hI6 (c : Int) (by omega))
    clear HST hp6 hI5 hP5 hR5 r5 p5 s11 hB5 k11 hnX
    go_upto_region 10 with (go_at_call 43; (with_reducible refine HCU.out.mono ?_); rintro e w7 ⟨rfl, hI7, hd7⟩)
    have hRc := HRG.out.cut (c : Int)
    have haf : AfS (D0.cut (c : Int)) (c : Int) := ⟨HFD.out, by show max (c : Int) (-1) = (c : Int); omega⟩
    have hP7 := hP6.dr hd7
    have hR7 := hR6.dr hd7
    have r7 := r6.dr hd7 (by decide)
    have p5 := q5.dr hd7 (by decide)
    have p11 := q11.dr hd7 (by decide)
    have hB7 := hB6.trans (hd7.below.mono (Nat.le_of_lt hlw))
    have HRC := Lib.hid hRc
    have HAF := Lib.hid haf
    clear HCU hd7 hI6 hP6 hR6 r6 q5 q11 hB6 hRc haf HRG HFD
    generalize D0.cut (c : Int) = D1 at *
    go_upto_region 12 with fail
    have r12 := (Row.new w7 #[.int .i64 0] 3).alloc (.cells #[.slice none 0 0] 40)
    have r13 : Row ((w7.alloc (.cells #[.int .i64 0] 3)).alloc (.cells #[.slice none 0 0] 40)) (w7.heap.size + 1) #[.slice none 0 0] 40 := by
      have h := Row.new (w7.alloc (.cells #[.int .i64 0] 3)) #[.slice none 0 0] 40
      have e : (w7.alloc (.cells #[.int .i64 0] 3)).heap.size = w7.heap.size + 1 := by simp
      rwa [e] at h
    have hb8 := below_alloc (below_alloc (Below.refl w7.heap.size w7) (.cells #[.int .i64 0] 3)) (.cells #[.slice none 0 0] 40)
    have hI8 := hI7.below hb8
    have hP8 := hP7.below hb8 hP7.lt
    have hR8 := hR7.below hb8 hR7.lt
    have r8 := r7.below hb8 r7.lt
    have q5 := p5.below hb8 p5.lt
    have q11 := p11.below hb8 p11.lt
    have hB8 := below_two hB7 hb8
    have h12b : bs ≤ w7.heap.size := hI7.le
    have h5l := p5.lt
    have h0l := r7.lt
    have h11l := p11.lt
    clear hb8 hI7 hP7 hR7 r7 p5 p11 hB7
    generalize (w7.alloc (.cells #[.int .i64 0] 3)).alloc (.cells #[.slice none 0 0] 40) = w8 at *
    obtain ⟨g13, hg13⟩ : ∃ g13, w7.heap.size + 1 = g13 := ⟨_, rfl⟩
    rw [hg13] at r13 ⊢
    generalize w7.heap.size = g12 at *
    have HTR := Lib.hid (t_rpow HM.out (Nat.le_of_lt hlw) hB8 c m HMM.out HRC.out HAF.out hI8 hP8 hR8 q5 q11 r12 r13 (by decide) hgb hrb h12b (by omega) (by omega))
    have hnX : ∀ {k cc T}, Row w8 k cc T → T ≠ 108 → T ≠ 95 → T ≠ 3 → T ≠ 40 → k ∉ [g, r, g12, g13] := fun h1 hT1 hT2 hT3 hT4 hx => by
      simp only [List.mem_cons, List.not_mem_nil, or_false] at hx
      rcases hx with rfl | rfl | rfl | rfl
      · exact hT2 (row_type h1 hP8.row)
      · exact hT1 (row_type h1 hR8.row)
      · exact hT3 (row_type h1 r12)
      · exact hT4 (row_type h1 r13)
    have h8X := hnX r8 (by decide) (by decide) (by decide) (by decide)
    clear hnX HRC HAF q5 q11 hI8 hP8 hR8 r12 r13
    go_upto_region 13 with (go_at_call 44; (with_reducible refine HTR.out.mono ?_); rintro e w9 ⟨ok, rfl, hpx, hout⟩)
    obtain ⟨n, q, D2, La, hn16, hC, hlt, hch⟩ := hout
    have HCH := Lib.hid hch
    have r9 := hpx.2 _ _ _ r8 (by decide) h8X
    have hB9 := hB8.trans (hpx.1.mono (Nat.le_of_lt hlw))
    obtain ⟨va, r13, hHa⟩ := hC.al
    obtain ⟨A13, c13, rfl⟩ := hHa.form
    have r12 := hC.n12
    have hI9 := hC.dv
    have HFA := Lib.hid (c_fair key HK.out hI9 (by omega) hlt A3 l3 c3 us (HR3.out.below hB9 (Nat.le_refl _)) HU.out)
    have hfo := fair_ok key us D2
    generalize fairL key us D2.loose = fo at *
    obtain ⟨L', t, hRg', hLa, hL16, hLn⟩ := HCH.out fo hfo
    have hfree : Free (D2.crash fo) := Free.crash D2 fo
    clear hch hpx HTR r8 hB8 hlt HCH
    go_upto_region 14 with (first | (apply wpl_loadS (ty := 22); rfl; rfl; rfl; kernel_rfl; exact r9; (simp only [List.size_toArray, bv_length, HK.out]; kernel_rfl); simp only [Act.put, List.setIfInBounds_toArray, List.set_cons_zero, List.set_cons_succ]) | (go_at_call 47; (with_reducible refine HFA.out.mono ?_); rintro e w10 ⟨v10, rfl, ho10, hI10, hb10⟩; obtain ⟨A10, d10, rfl, -, -, hr10⟩ := ho10.form) | (go_at_call 46; (with_reducible refine (i_crash hI10 (by omega) A10 fo.length d10 fo hr10 hfo.rg (Nat.zero_le _) (own_intP ho10 bs)).mono ?_); rintro e w11 ⟨rfl, hI11, hd11⟩))
    have r11k := (r9.below hb10 r9.lt).dr hd11 (by decide)
    have p12 := (r12.below hb10 r12.lt).dr hd11 (by decide)
    have p13 := (r13.below hb10 r13.lt).dr hd11 (by decide)
    have hH11 := (hHa.below hb10 hI9.le).px (PX.of_dr hd11) (fun x hx => by cases hx)
    have hB11 := (below_two hB9 hb10).trans (hd11.below.mono (Nat.le_of_lt hlw))
    clear HFA hC r9 r12 r13 hHa hI9 hB9 ho10 hI10 hb10 hr10 hd11 hfo
    generalize D2.crash fo = D3 at *
    have hn2 := p_new b key HK.out 2 (by decide) w11
    simp only [show ((2 : Nat) : Int) = 2 from rfl] at hn2
    have HN2 := Lib.hid hn2
    clear hn2
    go_upto_region 15 with (first | (apply wpl_loadS (ty := 22); rfl; rfl; rfl; kernel_rfl; exact r11k; (simp only [List.size_toArray, bv_length, HK.out]; kernel_rfl); simp only [Act.put, List.setIfInBounds_toArray, List.set_cons_zero, List.set_cons_succ]) | (go_at_call 18; (with_reducible refine HN2.out.mono ?_); rintro e w12 ⟨g2, rfl, hP12, hg2, hb12⟩) | (go_at_call 35; (with_reducible refine (c_rNew g2 2 16 2 16 rfl rfl w12).mono ?_); rintro e w13 ⟨ro, rfl, hO13, hro, hb13⟩))
    have hI12 := hI11.below hb12
    have hI13 := hI12.below hb13
    have hP13 := hP12.below hb13 hP12.lt
    have hg2b : bs ≤ g2 := Nat.le_trans hI11.le hg2
    have hrob : bs ≤ ro := Nat.le_trans hI12.le hro
    have hrog : ro ≠ g2 := by have := hP12.lt; omega
    have p12b := (p12.below hb12 p12.lt).below hb13 (p12.below hb12 p12.lt).lt
    have p13b := (p13.below hb12 p13.lt).below hb13 (p13.below hb12 p13.lt).lt
    have hH13 := (hH11.below hb12 hI11.le).below hb13 hI12.le
    have hB13 := below_two (below_two hB11 hb12) hb13
    have hld := c_load hO13 hP13 hI13 (by omega) hfree hrob hg2b hrog (by decide) (by decide) 7
    rw [hRg'.load hL16] at hld
    simp only [show ((7 : Nat) : Int) = 7 from rfl] at hld
    have HLD := Lib.hid hld
    have hoX : ∀ x ∈ [ro], ∃ c T, Row w13 x c T ∧ T ≠ 24 := by
      intro y hy
      simp only [List.mem_singleton] at hy
      subst hy
      exact ⟨_, _, hO13.row, by decide⟩
    have h12o : g12 ∉ [ro] := fun hx => by
      simp only [List.mem_singleton] at hx
      subst hx
      exact absurd (row_type p12b hO13.row) (by decide)
    have h13o : g13 ∉ [ro] := fun hx => by
      simp only [List.mem_singleton] at hx
      subst hx
      exact absurd (row_type p13b hO13.row) (by decide)
    clear hld HN2 r11k p12 p13 hH11 hB11 hb12 hb13 hI11 hI12 hP12 hg2 hro
    go_upto_region 18 with (go_at_call 40; (with_reducible refine HLD.out.mono ?_); rintro e w14 ⟨v14, rfl, hG14, hI14, hP14, hO14, hp14⟩)
    obtain ⟨A14, c14, rfl⟩ := hG14.form
    have q12 := hp14.2 _ _ _ p12b (by decide) h12o
    have q13 := hp14.2 _ _ _ p13b (by decide) h13o
    have hH14 := hH13.px hp14 hoX
    have hB14 := hB13.trans (hp14.1.mono (Nat.le_of_lt hlw))
    have k12 : w14.cell? ⟨g12, 0, none⟩ = some (.int .i64 (n : Int)) := q12.cell 0 rfl
    have hle14 := hI14.le
    obtain ⟨ll, hll⟩ : ∃ ll, L'.length = ll := ⟨_, rfl⟩
    have hlla : ll ≤ La.length := by rw [hLa, List.length_append]; omega
    obtain ⟨la, hla⟩ : ∃ la, La.length = la := ⟨_, rfl⟩
    rw [hla] at hlla hH14 q13
    rw [hll] at hG14 hLn hL16 ⊢
    have HLL := Lib.hid hll
    have HLA := Lib.hid hLa
    have HLN := Lib.hid hla
    clear HLD hp14 hoX h12o h13o p12b p13b hH13 hB13 hI13 hP13 hO13 hI14 hP14 hO14 hll hLa hla hRg' hfree
    obtain ⟨n1, hn1⟩ : ∃ n1, n + 1 = n1 := ⟨_, rfl⟩
    have hni : (n : Int) + 1 = (n1 : Int) := by omega
    have hnw : IntKind.i64.wrap (n1 : Int) = (n1 : Int) := IntWalk.i64_in _ (by omega)
    have hLn2 : ll = n ∨ (ok = false ∧ ll = n1 ∧ n1 ≠ n) := by rcases hLn with q | ⟨q1, q2⟩
                                                               · exact .inl q
                                                               · exact .inr ⟨q1, by omega, by omega⟩
    clear hLn
    clear hn1
    rcases hLn2 with rfl | ⟨rfl, rfl, hne⟩
    case' inr =>
      have hne1 : ((ll : Int) == (n : Int)) = false := by simp; omega
      clear hne
    all_goals
      go_upto_region 21 with fail
      go_loopw [17] (fun s17 wz => ∃ j : Nat, j ≤ ll ∧ s17 = .int .i64 (j : Int) ∧ Below w14.heap.size w14 wz) (fun s17 _ => (ll - intOf s17).toNat)
      case atStart => exact ⟨0, by omega, rfl, Below.refl _ _⟩
      case round =>
        obtain ⟨j, hj, rfl, hbz⟩ := hrel
        by_cases hje : j < ll
        · obtain ⟨xs, hxs⟩ : ∃ xs, L'[j]? = some xs := ⟨_, List.getElem?_eq_getElem (by rw [HLL.out]; exact hje)⟩
          have hxa : La[j]? = some xs := by rw [HLA.out, List.getElem?_append_left (by rw [HLL.out]; exact hje)]; exact hxs
          have hbd : Below w14.heap.size w14 wr.drew := below_drew hbz
          obtain ⟨g1, d1, Ag, dg, ev1, hc1, -, hby⟩ := (hG14.below hbd hle14).elem hxs
          obtain ⟨g2', d2, Ah, dh, ev2, hc2, -, hrh⟩ := (hH14.below hbd hle14).elem hxa
          obtain ⟨Ag', dg', eg, -, -, hrg', -⟩ := hby
          simp only [Value.slice.injEq] at eg ev1 ev2
          obtain ⟨rfl, -, rfl⟩ := eg
          obtain ⟨rfl, -, -⟩ := ev1
          obtain ⟨rfl, -, -⟩ := ev2
          have k13 : wr.drew.cell? ⟨g13, 0, none⟩ = some (.slice (some ⟨g2', 0, none⟩) la c13) := (q13.below hbd q13.lt).cell 0 rfl
          have HSM := Lib.hid (c_rSame wr.drew Ag Ah xs.length xs.length dg dh xs xs hrg' hrh true (by simp))
          have hj0 : (0 : Int) ≤ (j : Int) := by omega
          have hjl : (j : Int) < (ll : Int) := by omega
          have hjla : (j : Int) < (la : Int) := by omega
          have hgd : decide ((j : Int) ≥ (la : Int)) = false := decide_eq_false (by omega)
          have hgn : decide (la ≤ j) = false := decide_eq_false (by omega)
          have hgl : ¬ la ≤ j := by omega
          obtain ⟨j1, hj1⟩ : ∃ j1, j + 1 = j1 := ⟨_, rfl⟩
          have hji : (j : Int) + 1 = (j1 : Int) := by omega
          have hwj : IntKind.i64.wrap (j1 : Int) = (j1 : Int) := IntWalk.i64_in _ (by omega)
          have hj1l : j1 ≤ ll := by omega
          have hjm : ll - j1 < ll - j := by omega
          have hbk : Below w14.heap.size w14 wr.drew := hbd
          clear hbd hrg' hrh hj1 hxs hxa
          generalize xs.length = xl at *
          go_upto_region 23 with fail
          (refine wp_region_linN (KpP) (KpP) (wayKpP) (wayKpP) (fun _ _ h => h) (.free 0 (.hot 1 (.free 2 (.free 3 (.free 4 (.free 5 (.free 6 (.free 7 (.hot 8 (.hot 9 (.free 10 (.free 11 (.hot 12 (.op 13 [(4, 13), (3, 4), (2, 3), (1, 2), (8, 13), (12, 13), (11, 12), (9, 11)] [] [] (.free 14 (.free 15 .nil)))))))))))))))) rfl (by kernel_rfl) (by kernel_rfl) (fun _ _ _ _ _ h => h) ?_; (first | (apply linN_free; (simp only [List.getElem?_toArray, List.getElem?_cons_succ, List.getElem?_cons_zero]; rfl); (rfl); (intro w'; (first | (go_simp; done) | (go_simp; with_reducible rfl) | (go_simp; go_bits; with_reducible rfl) | (go_simp; go_bits; done))); try simp only [Act.put, List.setIfInBounds_toArray, List.set_cons_zero, List.set_cons_succ]) | (apply linN_freeSkip; (simp only [List.getElem?_toArray, List.getElem?_cons_succ, List.getElem?_cons_zero]; rfl); (rfl); try simp only [Act.put, List.setIfInBounds_toArray, List.set_cons_zero, List.set_cons_succ])); (first | (apply linN_hot; (simp only [List.getElem?_toArray, List.getElem?_cons_succ, List.getElem?_cons_zero]; rfl); (rfl); (intro w' hb'; (try have k_k13 := kpP_cell hb' k13); (try have k_hc1 := kpP_cell hb' hc1); (try have k_hc2 := kpP_cell hb' hc2); (first | (go_simp; done) | (go_simp; with_reducible rfl) | (go_simp; go_bits; with_reducible rfl) | (go_simp; go_bits; done))); try simp only [Act.put, List.setIfInBounds_toArray, List.set_cons_zero, List.set_cons_succ]) | (apply linN_hotSkip; (simp only [List.getElem?_toArray, List.getElem?_cons_succ, List.getElem?_cons_zero]; rfl); (rfl); try simp only [Act.put, List.setIfInBounds_toArray, List.set_cons_zero, List.set_cons_succ])); (first | (apply linN_free; (simp only [List.getElem?_toArray, List.getElem?_cons_succ, List.getElem?_cons_zero]; rfl); (rfl); (intro w'; (first | (go_simp; done) | (go_simp; with_reducible rfl) | (go_simp; go_bits; with_reducible rfl) | (go_simp; go_bits; done))); try simp only [Act.put, List.setIfInBounds_toArray, List.set_cons_zero, List.set_cons_succ]) | (apply linN_freeSkip; (simp only [List.getElem?_toArray, List.getElem?_cons_succ, List.getElem?_cons_zero]; rfl); (rfl); try simp only [Act.put, List.setIfInBounds_toArray, List.set_cons_zero, List.set_cons_succ])); (first | (apply linN_free; (simp only [List.getElem?_toArray, List.getElem?_cons_succ, List.getElem?_cons_zero]; rfl); (rfl); (intro w'; (first | (go_simp; done) | (go_simp; with_reducible rfl) | (go_simp; go_bits; with_reducible rfl) | (go_simp; go_bits; done))); try simp only [Act.put, List.setIfInBounds_toArray, List.set_cons_zero, List.set_cons_succ]) | (apply linN_freeSkip; (simp only [List.getElem?_toArray, List.getElem?_cons_succ, List.getElem?_cons_zero]; rfl); (rfl); try simp only [Act.put, List.setIfInBounds_toArray, List.set_cons_zero, List.set_cons_succ])); (first | (apply linN_free; (simp only [List.getElem?_toArray, List.getElem?_cons_succ, List.getElem?_cons_zero]; rfl); (rfl); (intro w'; (first | (go_simp; done) | (go_simp; with_reducible rfl) | (go_simp; go_bits; with_reducible rfl) | (go_simp; go_bits; done))); try simp only [Act.put, List.setIfInBounds_toArray, List.set_cons_zero, List.set_cons_succ]) | (apply linN_freeSkip; (simp only [List.getElem?_toArray, List.getElem?_cons_succ, List.getElem?_cons_zero]; rfl); (rfl); try simp only [Act.put, List.setIfInBounds_toArray, List.set_cons_zero, List.set_cons_succ])); (first | (apply linN_free; (simp only [List.getElem?_toArray, List.getElem?_cons_succ, List.getElem?_cons_zero]; rfl); (rfl); (intro w'; (first | (go_simp; done) | (go_simp; with_reducible rfl) | (go_simp; go_bits; with_reducible rfl) | (go_simp; go_bits; done))); try simp only [Act.put, List.setIfInBounds_toArray, List.set_cons_zero, List.set_cons_succ]) | (apply linN_freeSkip; (simp only [List.getElem?_toArray, List.getElem?_cons_succ, List.getElem?_cons_zero]; rfl); (rfl); try simp only [Act.put, List.setIfInBounds_toArray, List.set_cons_zero, List.set_cons_succ])); (first | (apply linN_free; (simp only [List.getElem?_toArray, List.getElem?_cons_succ, List.getElem?_cons_zero]; rfl); (rfl); (intro w'; (first | (go_simp; done) | (go_simp; with_reducible rfl) | (go_simp; go_bits; with_reducible rfl) | (go_simp; go_bits; done))); try simp only [Act.put, List.setIfInBounds_toArray, List.set_cons_zero, List.set_cons_succ]) | (apply linN_freeSkip; (simp only [List.getElem?_toArray, List.getElem?_cons_succ, List.getElem?_cons_zero]; rfl); (rfl); try simp only [Act.put, List.setIfInBounds_toArray, List.set_cons_zero, List.set_cons_succ])); (first | (apply linN_free; (simp only [List.getElem?_toArray, List.getElem?_cons_succ, List.getElem?_cons_zero]; rfl); (rfl); (intro w'; (first | (go_simp; done) | (go_simp; with_reducible rfl) | (go_simp; go_bits; with_reducible rfl) | (go_simp; go_bits; done))); try simp only [Act.put, List.setIfInBounds_toArray, List.set_cons_zero, List.set_cons_succ]) | (apply linN_freeSkip; (simp only [List.getElem?_toArray, List.getElem?_cons_succ, List.getElem?_cons_zero]; rfl); (rfl); try simp only [Act.put, List.setIfInBounds_toArray, List.set_cons_zero, List.set_cons_succ])); (first | (apply linN_hot; (simp only [List.getElem?_toArray, List.getElem?_cons_succ, List.getElem?_cons_zero]; rfl); (rfl); (intro w' hb'; (try have k_k13 := kpP_cell hb' k13); (try have k_hc1 := kpP_cell hb' hc1); (try have k_hc2 := kpP_cell hb' hc2); (first | (go_simp; done) | (go_simp; with_reducible rfl) | (go_simp; go_bits; with_reducible rfl) | (go_simp; go_bits; done))); try simp only [Act.put, List.setIfInBounds_toArray, List.set_cons_zero, List.set_cons_succ]) | (apply linN_hotSkip; (simp only [List.getElem?_toArray, List.getElem?_cons_succ, List.getElem?_cons_zero]; rfl); (rfl); try simp only [Act.put, List.setIfInBounds_toArray, List.set_cons_zero, List.set_cons_succ])); (first | (apply linN_hot; (simp only [List.getElem?_toArray, List.getElem?_cons_succ, List.getElem?_cons_zero]; rfl); (rfl); (intro w' hb'; (try have k_k13 := kpP_cell hb' k13); (try have k_hc1 := kpP_cell hb' hc1); (try have k_hc2 := kpP_cell hb' hc2); (first | (go_simp; done) | (go_simp; with_reducible rfl) | (go_simp; go_bits; with_reducible rfl) | (go_simp; go_bits; done))); try simp only [Act.put, List.setIfInBounds_toArray, List.set_cons_zero, List.set_cons_succ]) | (apply linN_hotSkip; (simp only [List.getElem?_toArray, List.getElem?_cons_succ, List.getElem?_cons_zero]; rfl); (rfl); try simp only [Act.put, List.setIfInBounds_toArray, List.set_cons_zero, List.set_cons_succ])); (first | (apply linN_free; (simp only [List.getElem?_toArray, List.getElem?_cons_succ, List.getElem?_cons_zero]; rfl); (rfl); (intro w'; (first | (go_simp; done) | (go_simp; with_reducible rfl) | (go_simp; go_bits; with_reducible rfl) | (go_simp; go_bits; done))); try simp only [Act.put, List.setIfInBounds_toArray, List.set_cons_zero, List.set_cons_succ]) | (apply linN_freeSkip; (simp only [List.getElem?_toArray, List.getElem?_cons_succ, List.getElem?_cons_zero]; rfl); (rfl); try simp only [Act.put, List.setIfInBounds_toArray, List.set_cons_zero, List.set_cons_succ])); (first | (apply linN_free; (simp only [List.getElem?_toArray, List.getElem?_cons_succ, List.getElem?_cons_zero]; rfl); (rfl); (intro w'; (first | (go_simp; done) | (go_simp; with_reducible rfl) | (go_simp; go_bits; with_reducible rfl) | (go_simp; go_bits; done))); try simp only [Act.put, List.setIfInBounds_toArray, List.set_cons_zero, List.set_cons_succ]) | (apply linN_freeSkip; (simp only [List.getElem?_toArray, List.getElem?_cons_succ, List.getElem?_cons_zero]; rfl); (rfl); try simp only [Act.put, List.setIfInBounds_toArray, List.set_cons_zero, List.set_cons_succ])); (first | (apply linN_hot; (simp only [List.getElem?_toArray, List.getElem?_cons_succ, List.getElem?_cons_zero]; rfl); (rfl); (intro w' hb'; (try have k_k13 := kpP_cell hb' k13); (try have k_hc1 := kpP_cell hb' hc1); (try have k_hc2 := kpP_cell hb' hc2); (first | (go_simp; done) | (go_simp; with_reducible rfl) | (go_simp; go_bits; with_reducible rfl) | (go_simp; go_bits; done))); try simp only [Act.put, List.setIfInBounds_toArray, List.set_cons_zero, List.set_cons_succ]) | (apply linN_hotSkip; (simp only [List.getElem?_toArray, List.getElem?_cons_succ, List.getElem?_cons_zero]; rfl); (rfl); try simp only [Act.put, List.setIfInBounds_toArray, List.set_cons_zero, List.set_cons_succ])); (first | (apply linN_pass (wayKpP) (wayKpP); (simp only [List.getElem?_toArray, List.getElem?_cons_succ, List.getElem?_cons_zero]; rfl); (rfl); try simp only [Act.put, List.setIfInBounds_toArray, List.set_cons_zero, List.set_cons_succ]) | (apply linN_op; (simp only [List.getElem?_toArray, List.getElem?_cons_succ, List.getElem?_cons_zero]; rfl); (rfl); intro K hK; (first | (go_simp; (first | (go_at_call 25; (with_reducible refine HSM.out.mono ?_); rintro y w' ⟨rfl, rfl⟩) | skip))); refine hK _ _ ?_ ?_; (exact trivial); clear hK; try simp only [Act.put, List.setIfInBounds_toArray, List.set_cons_zero, List.set_cons_succ])); (first | (apply linN_free; (simp only [List.getElem?_toArray, List.getElem?_cons_succ, List.getElem?_cons_zero]; rfl); (rfl); (intro w'; (first | (go_simp; done) | (go_simp; with_reducible rfl) | (go_simp; go_bits; with_reducible rfl) | (go_simp; go_bits; done))); try simp only [Act.put, List.setIfInBounds_toArray, List.set_cons_zero, List.set_cons_succ]) | (apply linN_freeSkip; (simp only [List.getElem?_toArray, List.getElem?_cons_succ, List.getElem?_cons_zero]; rfl); (rfl); try simp only [Act.put, List.setIfInBounds_toArray, List.set_cons_zero, List.set_cons_succ])); (first | (apply linN_free; (simp only [List.getElem?_toArray, List.getElem?_cons_succ, List.getElem?_cons_zero]; rfl); (rfl); (intro w'; (first | (go_simp; done) | (go_simp; with_reducible rfl) | (go_simp; go_bits; with_reducible rfl) | (go_simp; go_bits; done))); try simp only [Act.put, List.setIfInBounds_toArray, List.set_cons_zero, List.set_cons_succ]) | (apply linN_freeSkip; (simp only [List.getElem?_toArray, List.getElem?_cons_succ, List.getElem?_cons_zero]; rfl); (rfl); try simp only [Act.put, List.setIfInBounds_toArray, List.set_cons_zero, List.set_cons_succ])); refine linN_end ?_)
          go_wp2_with fail
          go_roundw
          case rel => exact ⟨j1, hj1l, rfl, hbk⟩
          case measure => simp [intOf]; omega
        · obtain rfl : j = ll := by omega
          have hB15 := below_two hB14 hbz
          go_wp2_with (go_at_call 36; (with_reducible refine (c_awake11 _).mono ?_); rintro e w20 ⟨rfl, hb20⟩)
          go_ret
          exact ⟨rfl, below_two hB15 hb20⟩
theorem w_RingPower (y0 : List UInt8) (a1 : Option Addr) (len1 cap1 : Nat) (a2 : Int) (a3 : Option Addr) (len3 cap3 : Nat) (z3 : List Int) (w : World) (w0 : y0.length = 32) (w1 : IsMat .u8 w a1 len1 cap1) (w2 : (Lit.int .i64 a2).wf = true) (w3 : IsRow .i64 w a3 len3 cap3 z3) :
    Calls Try.prog 15 #[.agg (bv y0).toArray, .slice a1 len1 cap1, .int .i64 a2, .slice a3 len3 cap3] w fun e w' => e = .returned (.bool true) ∧ Below w.heap.size w w' := by
  obtain ⟨xss, hM⟩ := mat_bytes w1
  obtain ⟨us, hR3, -, -, hu⟩ := row_intsP w3
  exact w_rpow0 y0 w0 a1 a3 len1 cap1 len3 cap3 xss a2 us w hM hR3 hu
end Go.Proofs.Ytmdmhjcdaejlkaa
