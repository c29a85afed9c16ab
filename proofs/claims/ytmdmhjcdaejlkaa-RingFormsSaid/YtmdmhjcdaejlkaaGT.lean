/- dumbwaiterlaw11.awake. -/
import Derived.Test.YtmdmhjcdaejlkaaGR
import Derived.Test.YtmdmhjcdaejlkaaAwk10
import Derived.Deep.Cut
import Derived.Test.YtmdmhjcdaejlkaaEqB
import Derived.Test.YtmdmhjcdaejlkaaMkB
import Derived.Test.YtmdmhjcdaejlkaaSuprE
set_option linter.unusedVariables false
set_option linter.unusedSimpArgs false
namespace Go.Proofs.Ytmdmhjcdaejlkaa
open Go.RowKit

set_option maxHeartbeats 8000000 in
set_option maxRecDepth 100000 in
theorem c_awake11 (w : World) : Calls Try.prog 36 #[] w fun e w' => e = .returned (.bool true) ∧ Below w.heap.size w w' := by
  go_enter Try.func36, Try.ntmps36
  go_wp2_with fail
  refine (i_new 6 60 w (by decide) (by decide)).mono ?_
  rintro e w1 ⟨b, rfl, hI, hB⟩
  obtain ⟨key, hkey⟩ : ∃ key : List UInt8, key = 1 :: List.replicate 31 0 := ⟨_, rfl⟩
  have hk32 : key.length = 32 := by rw [hkey]; rfl
  have hkv : (#[.int .u8 1, .int .u8 0, .int .u8 0, .int .u8 0, .int .u8 0, .int .u8 0, .int .u8 0, .int .u8 0, .int .u8 0, .int .u8 0, .int .u8 0, .int .u8 0, .int .u8 0, .int .u8 0, .int .u8 0, .int .u8 0, .int .u8 0, .int .u8 0, .int .u8 0, .int .u8 0, .int .u8 0, .int .u8 0, .int .u8 0, .int .u8 0, .int .u8 0, .int .u8 0, .int .u8 0, .int .u8 0, .int .u8 0, .int .u8 0, .int .u8 0, .int .u8 0] : Array Value) = (bv key).toArray := by rw [hkey]; rfl
  have HKV := Lib.hid hkv
  have hfr : Free (dkNew 6 60) := ⟨rfl, rfl⟩
  have hsz : (dkNew 6 60).size = ((60 : Nat) : Int) := rfl
  have hh2 : (dkNew 6 60).has ((2 + 0 : Nat) : Int) = true := by decide
  have hh3 : (dkNew 6 60).has ((2 + 1 : Nat) : Int) = true := by decide
  generalize dkNew 6 60 = D0 at *
  obtain ⟨D1, hD1⟩ : ∃ D1, (addWr D0 key 5 0 2 0 3 [97]).flush = D1 := ⟨_, rfl⟩
  have f0 : Free (addWr D0 key 5 0 2 0 3 [97]) := hfr.write _ _
  have f1 : Free D1 := by rw [← hD1]; exact add_free hfr
  have s1 : D1.size = ((60 : Nat) : Int) := by rw [← hD1, add_size]; exact hsz
  have t1 : ∀ i, txA key D1 2 i = if i = 0 then some (rhL 3 0 ++ [97]) else txA key D0 2 i := fun i => by rw [← hD1]; exact txA_add hsz (by decide) (by rw [hsz]; decide) hh2 i
  obtain ⟨D2, hD2⟩ : ∃ D2, (addWr D1 key 5 (0 + 1) 2 (0 + 1) 3 [98]).flush = D2 := ⟨_, rfl⟩
  have f1' : Free (addWr D1 key 5 (0 + 1) 2 (0 + 1) 3 [98]) := f1.write _ _
  have f2 : Free D2 := by rw [← hD2]; exact add_free f1
  have t2 : ∀ i, txA key D2 2 i = if i = 1 then some (rhL 3 1 ++ [98]) else txA key D1 2 i := fun i => by rw [← hD2]; exact txA_add s1 (by decide) (by rw [s1]; decide) (by rw [← hD1, add_has]; exact hh3) i
  have u0 : txA key D2 2 0 = some (rhL 3 0 ++ [97]) := by rw [t2, if_neg (by decide), t1, if_pos rfl]
  have u1 : txA key D2 2 1 = some (rhL 3 1 ++ [98]) := by rw [t2, if_pos rfl]
  have l3 : loadN key D2 ((2 : Nat) : Int) 3 2 = [[97], [98]] := by
    have := load_full (key := key) (D := D2) (at_ := 2) (e := 3) (l := [[97], [98]]) (fun j x hx => by
      rw [recA_tx]
      match j, hx with
      | 0, hx => cases hx; rw [u0]; exact (recN_rh (by decide) (by decide) (by decide) (by decide) _).trans (if_pos ⟨rfl, rfl⟩)
      | 1, hx => cases hx; rw [u1]; exact (recN_rh (by decide) (by decide) (by decide) (by decide) _).trans (if_pos ⟨rfl, rfl⟩)
      | j + 2, hx => simp at hx) 2 (by decide)
    rw [this]; rfl
  obtain ⟨D3, hD3⟩ : ∃ D3, readsD D2 ((2 : Nat) : Int) 2 = D3 := ⟨_, rfl⟩
  have f3 : Free D3 := by rw [← hD3]; exact f2.reads _ _
  have o3 : openL key (D3.at_ D3.now 3) = some (rhL 3 1 ++ [98]) := by rw [← hD3, readsD_at]; exact u1
  have f4 : Free (D3.read 3) := f3.read 3
  have l4 : loadN key (D3.read 3) ((2 : Nat) : Int) 4 2 = [] := by
    have h0 : txA key (D3.read 3) 2 0 = some (rhL 3 0 ++ [97]) := by
      have : txA key (D3.read 3) 2 0 = txA key D3 2 0 := rfl
      rw [this, ← hD3, txA_reads]; exact u0
    have := load_pre (key := key) (D := D3.read 3) (at_ := 2) (e := 4) (l := []) (fun j x hx => by simp at hx) (by rw [recA_tx]; show (txA key (D3.read 3) 2 0).bind _ = none; rw [h0]; exact (recN_rh (by decide) (by decide) (by decide) (by decide) _).trans (if_neg (by decide))) 2
    rw [this]; rfl
  have HAD1 := Lib.hid (fun W (g r A c nn : Nat) (hR : RingAt W r g 2 2 3 0) (hP : PenAt W g b key 5 0) (hI : In W w.heap.size b D0 nn) (hn : nn ≤ 1000) (h1 : w.heap.size ≤ r) (h2 : w.heap.size ≤ g) (h3 : r ≠ g) (hX : RdB W (some ⟨A, 0, none⟩) 1 [97]) => c_addG hR hP hI (by omega) h1 h2 h3 (by decide) (by decide) (by decide) hfr.goes (some ⟨A, 0, none⟩) 1 c [97] hX (by decide) (by decide) true (by rw [hsz]; decide) (fun _ => f0.goes))
  have HAD2 := Lib.hid (fun W (g r A c nn : Nat) (hR : RingAt W r g 2 2 3 (0 + 1)) (hP : PenAt W g b key 5 (0 + 1)) (hI : In W w.heap.size b D1 nn) (hn : nn ≤ 1000) (h1 : w.heap.size ≤ r) (h2 : w.heap.size ≤ g) (h3 : r ≠ g) (hX : RdB W (some ⟨A, 0, none⟩) 1 [98]) => c_addG hR hP hI (by omega) h1 h2 h3 (by decide) (by decide) (by decide) f1.goes (some ⟨A, 0, none⟩) 1 c [98] hX (by decide) (by decide) true (by rw [s1]; decide) (fun _ => f1'.goes))
  have HLD1 := Lib.hid (fun W (g r nn : Nat) (hR : RingAt W r g 2 2 0 0) (hP : PenAt W g b key 5 (0 + 1 + 1)) (hI : In W w.heap.size b D2 nn) (hn : nn ≤ 1000) (h1 : w.heap.size ≤ r) (h2 : w.heap.size ≤ g) (h3 : r ≠ g) => c_load hR hP hI (by omega) f2 h1 h2 h3 (by decide) (by decide) 3)
  have HRD := Lib.hid (fun W (g nn : Nat) (hP : PenAt W g b key 5 (0 + 1 + 1)) (hI : In W w.heap.size b D3 nn) (hn : nn ≤ 1000) => p_read hP hI (by omega) f3.goes 3 (by decide))
  have HLD2 := Lib.hid (fun W (g r nn : Nat) (hR : RingAt W r g 2 2 3 2) (hP : PenAt W g b key 5 (0 + 1 + 1)) (hI : In W w.heap.size b (D3.read 3) nn) (hn : nn ≤ 1000) (h1 : w.heap.size ≤ r) (h2 : w.heap.size ≤ g) (h3 : r ≠ g) => c_load hR hP hI (by omega) f4 h1 h2 h3 (by decide) (by decide) 4)
  simp only [if_true] at HAD1 HAD2
  rw [hD1] at HAD1
  rw [hD2] at HAD2
  rw [l3, hD3] at HLD1
  rw [o3, opP_some o3] at HRD
  rw [l4] at HLD2
  simp only [Option.isSome, show ((3 : Nat) : Int) = 3 from rfl, show ((4 : Nat) : Int) = 4 from rfl] at HLD1 HLD2 HRD
  have HK := Lib.hid hk32
  have hstr : strB (rhL 3 1 ++ [98]) = ⟨#[3, 0, 0, 0, 0, 0, 0, 0, 1, 0, 0, 0, 98]⟩ := by decide +kernel
  have HST := Lib.hid hstr
  clear hkey hk32 hkv hfr hsz hh2 hh3 f0 f1 s1 t1 f1' f2 t2 u0 u1 l3 f3 o3 f4 l4 hD1 hD2 hD3 hstr
  generalize D3.read 3 = D4 at *
  have HNEW := Lib.hid (p_new b key HK.out 5 (by decide) w1)
  rw [← HKV.out] at HNEW
  go_wp2_with fail
  refine HNEW.out.mono ?_
  rintro e w2 ⟨g, rfl, hP, hg, hb2⟩
  have hI2 := hI.below hb2
  have hgb : w.heap.size ≤ g := Nat.le_trans hI.le hg
  have hB2 := below_two hB hb2
  clear HNEW hI hB hb2 hg
  go_wp2_with fail
  refine (c_rNew g 2 2 2 2 rfl rfl w2).mono ?_
  rintro e w3 ⟨rx, rfl, hX, hrx, hb3⟩
  go_wp2_with fail
  refine (c_rNew g 2 2 2 2 rfl rfl w3).mono ?_
  rintro e w4 ⟨ry, rfl, hY, hry, hb4⟩
  have hgl := hP.lt
  have hxl := hX.lt
  have hI4 := (hI2.below hb3).below hb4
  have hP4 := (hP.below hb3 hP.lt).below hb4 (by omega)
  have hX4 := hX.below hb4 hX.lt
  have hB4 := below_two (below_two hB2 hb3) hb4
  have hxb : w.heap.size ≤ rx := Nat.le_trans hI2.le hrx
  have hyb : w.heap.size ≤ ry := Nat.le_trans (hI2.below hb3).le hry
  have hxg : rx ≠ g := by omega
  have hyg : ry ≠ g := by omega
  have hxy : ry ≠ rx := by omega
  clear hb3 hb4 hrx hry hX hP hB2 hI2 hgl hxl
  have hst := c_rStart hX4 hI4 hP4 hxb (Ne.symm hxg) 3
  simp only [show ((3 : Nat) : Int) = 3 from rfl] at hst
  go_upto_region 8 with (go_at_call 37; (with_reducible refine hst.mono ?_); rintro e w5 ⟨rfl, hX5, hI5, hP5, hp5⟩)
  have hY5 := hY.px hp5 (by simpa using hxy)
  have hB5 := hB4.trans hp5.1
  clear hst hX4 hI4 hP4 hY hB4 hp5
  have hcv := Go.Lib.run_convert_bytes_const (P := Try.prog) w5 24 5 #[.int .u8 97] 1 1 Try.underlying24 Try.underlying5
  have hb6 := below_alloc (Below.refl w5.heap.size w5) (.cells #[.int .u8 97] 5 (1, 2))
  have hl6 : RdB (w5.alloc (.cells #[.int .u8 97] 5 (1, 2))) (some ⟨w5.heap.size, 0, none⟩) 1 [97] := rd_lit w5 [.int .u8 97] 5 (1, 2) 1 rfl
  have HA := Lib.hid (HAD1.out _ g rx _ 1 _ (hX5.below hb6 hX5.lt) (hP5.below hb6 hP5.lt) (hI5.below hb6) (by decide) hxb hgb hxg hl6)
  have hY6 := hY5.below hb6 hY5.lt
  have hB6 := below_two hB5 hb6
  go_wp2_with fail
  refine HA.out.mono ?_
  rintro e w7 ⟨rfl, hI7, hP7, hX7, hp7⟩
  have hY7 := hY6.px hp7 (by simp; exact ⟨hyg, hxy⟩)
  have hB7 := hB6.trans hp7.1
  clear HA HAD1 hcv hb6 hl6 hX5 hI5 hP5 hY5 hB5 hY6 hB6 hp7
  have hcv := Go.Lib.run_convert_bytes_const (P := Try.prog) w7 24 5 #[.int .u8 98] 1 1 Try.underlying24 Try.underlying5
  have hb8 := below_alloc (Below.refl w7.heap.size w7) (.cells #[.int .u8 98] 5 (1, 2))
  have hl8 : RdB (w7.alloc (.cells #[.int .u8 98] 5 (1, 2))) (some ⟨w7.heap.size, 0, none⟩) 1 [98] := rd_lit w7 [.int .u8 98] 5 (1, 2) 1 rfl
  have HA := Lib.hid (HAD2.out _ g rx _ 1 _ (hX7.below hb8 hX7.lt) (hP7.below hb8 hP7.lt) (hI7.below hb8) (by decide) hxb hgb hxg hl8)
  have hY8 := hY7.below hb8 hY7.lt
  have hB8 := below_two hB7 hb8
  go_wp2_with fail
  refine HA.out.mono ?_
  rintro e w9 ⟨rfl, hI9, hP9, hX9, hp9⟩
  have hY9 := hY8.px hp9 (by simp; exact ⟨hyg, hxy⟩)
  have hB9 := hB8.trans hp9.1
  clear HA HAD2 hcv hb8 hl8 hX7 hI7 hP7 hY7 hB7 hY8 hB8 hp9
  have hcv := Go.Lib.run_convert_bytes_const (P := Try.prog) w9 24 5 #[.int .u8 99] 1 1 Try.underlying24 Try.underlying5
  have hb10 := below_alloc (Below.refl w9.heap.size w9) (.cells #[.int .u8 99] 5 (1, 2))
  have HA := Lib.hid (fun A => c_addFull (hX9.below hb10 hX9.lt) (by decide) A 1 1)
  go_wp2_with fail
  refine (HA.out _).mono ?_
  rintro e w11 ⟨rfl, hb11⟩
  have hb := below_two hb10 hb11
  have hX11 := hX9.below hb hX9.lt
  have hY11 := hY9.below hb hY9.lt
  have hP11 := hP9.below hb hP9.lt
  have hI11 := hI9.below hb
  have hB11 := below_two hB9 hb
  clear HA hcv hb10 hb11 hb hX9 hI9 hP9 hY9 hB9
  have HL := Lib.hid (HLD1.out _ g ry _ hY11 hP11 hI11 (by decide) hyb hgb hyg)
  go_wp2_with fail
  refine HL.out.mono ?_
  rintro e w12 ⟨v12, rfl, hm12, hI12, hP12, hY12, hp12⟩
  have hX12 := hX11.px hp12 (by simpa using Ne.symm hxy)
  have hB12 := hB11.trans hp12.1
  clear HL HLD1 hX11 hI11 hP11 hY11 hB11 hp12
  have hle12 := hI12.le
  have HR := Lib.hid (HRD.out _ g _ hP12 hI12 (by decide))
  go_upto_region 11 with (go_at_call 20; (with_reducible refine HR.out.mono ?_); rintro e w13 ⟨v13, rfl, ho13, hI13, hd13⟩)
  have hm13 := hm12.dr hd13
  have hX13 := hX12.dr hd13
  have hY13 : RingAt w13 ry g 2 2 3 2 := hY12.dr hd13
  have hP13 := hP12.dr hd13
  have hB13 := hB12.trans hd13.below
  obtain ⟨g', c', A', d', rfl, hc1, ld', hby⟩ := hm13.elem (j := 1) rfl
  obtain ⟨A'', d'', e1, -, -, r1, -⟩ := hby
  simp only [Value.slice.injEq] at e1
  obtain ⟨rfl, -, rfl⟩ := e1
  have s1 := conv_rd (c := d') r1
  have s2 := conv_own ho13
  rw [HST.out] at s2
  have s3 : strB [98] = ⟨#[98]⟩ := rfl
  rw [s3] at s1
  obtain ⟨A3, d3, rfl, -⟩ := ho13.form
  have hl13 : (rhL 3 1 ++ [98]).length = 13 := by rw [List.length_append, rhL_length]; rfl
  rw [hl13] at s2 ⊢
  clear hl13
  have HX := Lib.hid (c_rLen hX13)
  have HY := Lib.hid (c_rLen hY13)
  have HL := Lib.hid (HLD2.out _ g ry _ hY13 hP13 hI13 (by decide) hyb hgb hyg)
  clear HR HRD HLD2 hm12 hm13 hX12 hY12 hP12 hI12 hB12 hd13 ho13 hle12 r1 HST s3 hX13 hY13 hP13 hI13
  simp only [show ((0 + 1 + 1 : Nat) : Int) = 2 from rfl, show ((2 : Nat) : Int) = 2 from rfl, List.length_cons, List.length_nil] at HX HY s1 hc1 ⊢
  go_wp2_with (first | (go_at_call 41; first | ((with_reducible refine HX.out.mono ?_); rintro e w' ⟨rfl, rfl⟩) | ((with_reducible refine HY.out.mono ?_); rintro e w' ⟨rfl, rfl⟩)) | (go_at_call 40; (with_reducible refine HL.out.mono ?_); rintro e w14 ⟨v14, rfl, hm14, hI14, hP14, hY14, hp14⟩; obtain ⟨A14, c14, rfl⟩ := hm14.form))
  go_ret
  exact ⟨rfl, hB13.trans hp14.1⟩
end Go.Proofs.Ytmdmhjcdaejlkaa

/- dumbwaiterlaw6.Since: the last events. -/
set_option linter.unusedVariables false
set_option linter.unusedSimpArgs false
namespace Go.Proofs.Ytmdmhjcdaejlkaa
open Go.RowKit

theorem undE : Try.prog.underlying 41 = some (.slice (Try.prog.elem 41)) := by
  rw [show Try.prog.elem 41 = 45 by unfold Program.elem; rw [Try.underlying41]]; exact Try.underlying41
theorem sizeE (W : World) : (sizeOf (Try.prog.elem 41)).run Try.prog W = .ok 15 W := by
  rw [show Try.prog.elem 41 = 45 by unfold Program.elem; rw [Try.underlying41]]
  exact Try.sizeOf45 W
theorem run_cutE (W : World) (g n c k : Nat) (hk : k < n) (hc : n ≤ c) : (Instr.slice 41 (.slice (some ⟨g, 0, none⟩) n c) (some (.int .i64 (k : Int))) none none).run Try.prog W = .ok (.slice (some ⟨g, k * 15, none⟩) (n - k) (c - k)) W := by
  have := run_slice_l (P := Try.prog) W 41 (some ⟨g, 0, none⟩) n c undE .i64 (k : Int) (by omega) (by omega)
  rw [this, sizeE]
  have h1 : ¬ c = k := by omega
  simp only [Result.andThen_ok, sliced, Int.toNat_natCast, h1, if_false, Option.map_some, ad_none, Nat.zero_add]
variable {W : World} {base b n : Nat} {D : Dk}
set_option maxHeartbeats 2000000 in
set_option maxRecDepth 100000 in
theorem c_since (h : In W base b D n) (hn : n ≤ 800000) (k m : Nat) (hk : D.trace.length = k + m) (hm : 0 < m) :
    Calls Try.prog 48 #[.pointer (some ⟨b, 0, none⟩), .int .i64 (k : Int)] W fun e w' => (∃ g cap, e = .returned (.slice (some ⟨g, k * 15, none⟩) m cap) ∧ m ≤ cap ∧ g < w'.heap.size ∧
      ∀ j x, D.trace[k + j]? = some x → ∃ A c, x.head.length = 12 ∧ BytesAt w' W.heap.size (.slice A x.body.length c) x.body ∧ ∀ i v, (evC x.kind x.at_ x.head (.slice A x.body.length c))[i]? = some v → w'.cell? ⟨g, (k + j) * 15 + i, none⟩ = some v) ∧ In w' base b D n ∧ Below W.heap.size W w' := by
  have HT := Lib.hid (i_trace h (by omega))
  have HK := Lib.hid hk
  have hkl := h.bd.ln
  clear hk
  have hm0 : (0 : Int) < (m : Int) := by omega
  have hlt : ¬ ((k : Int) + (m : Int) < (k : Int)) := by omega
  have hN : ∃ N : Nat, k + m = N := ⟨_, rfl⟩
  obtain ⟨N, hN⟩ := hN
  have hNi : ¬ (N : Int) < (k : Int) := by omega
  have hNk : (k : Int) < (N : Int) := by omega
  go_enter Try.func48, Try.ntmps48
  go_upto_region 2 with (go_at_call 26; (with_reducible refine HT.out.mono ?_); rintro e w1 ⟨vt, rfl, ht, hI, hb⟩)
  have htr := ht
  obtain ⟨ts9, -, -, ht2⟩ := htr
  rcases ht2.2 with ⟨_, h0⟩ | ⟨g, cap, cur, hv, -, hh, hnc, -, -, -⟩
  · rw [HK.out] at h0; omega
  · subst hv
    rw [HK.out, hN] at hnc ⊢
    have e1 : ∀ W, (Instr.slice 41 (.slice (some ⟨g, 0, none⟩) N cap) (some (.int .i64 (k : Int))) none none).run Try.prog W = .ok (.slice (some ⟨g, k * 15, none⟩) (N - k) (cap - k)) W := fun W => run_cutE W g N cap k (by omega) hnc
    have hgl : g < w1.heap.size := (Array.getElem?_eq_some_iff.1 hh).1
    have hmN : m = N - k := by omega
    have hmc : N - k ≤ cap - k := by omega
    have H := Lib.hid (show ∀ j x, D.trace[k + j]? = some x → ∃ A c, x.head.length = 12 ∧ BytesAt w1 W.heap.size (.slice A x.body.length c) x.body ∧ ∀ i v, (evC x.kind x.at_ x.head (.slice A x.body.length c))[i]? = some v → w1.cell? ⟨g, (k + j) * 15 + i, none⟩ = some v by
      intro j x hx
      obtain ⟨g', cap', A, n', c', e2, q1, q2, q3⟩ := ht.elem hx
      simp only [Value.slice.injEq, Option.some.injEq, Addr.mk.injEq] at e2
      obtain ⟨⟨rfl, -, -⟩, -, -⟩ := e2
      have q2' := q2
      obtain ⟨A2, c2, e3, -⟩ := q2
      simp only [Value.slice.injEq] at e3
      obtain ⟨rfl, rfl, rfl⟩ := e3
      refine ⟨_, _, q1, q2', fun i v hv => ?_⟩
      have h3 := q3 i v hv
      rwa [ad_none] at h3)
    clear ht ht2 hh HT h hN
    go_wp2_with fail
    go_ret
    refine ⟨⟨g, cap - k, ?_, ?_, hgl, H.out⟩, hI, hb⟩
    · rw [hmN]; rfl
    · rw [hmN]; exact hmc
set_option maxHeartbeats 2000000 in
set_option maxRecDepth 100000 in
theorem c_since0 (h : In W base b D n) (hn : n ≤ 800000) (k : Nat) (hk : D.trace.length = k) :
    Calls Try.prog 48 #[.pointer (some ⟨b, 0, none⟩), .int .i64 (k : Int)] W fun e w' => (∃ A cap, e = .returned (.slice A 0 cap)) ∧ In w' base b D n ∧ Below W.heap.size W w' := by
  have HT := Lib.hid (i_trace h (by omega))
  have HK := Lib.hid hk
  have hkl := h.bd.ln
  clear hk
  go_enter Try.func48, Try.ntmps48
  go_upto_region 2 with (go_at_call 26; (with_reducible refine HT.out.mono ?_); rintro e w1 ⟨vt, rfl, ht, hI, hb⟩)
  obtain ⟨ts9, -, -, ht2⟩ := ht
  obtain ⟨A9, c9, rfl, h1, -⟩ := own_form ht2
  rw [HK.out] at h1 ⊢
  obtain ⟨A8, e1⟩ : ∃ A8, ∀ W, (Instr.slice 41 (.slice A9 k c9) (some (.int .i64 (k : Int))) none none).run Try.prog W = .ok (.slice A8 0 (c9 - k)) W := ⟨if c9 = k then A9 else A9.map (·.add (k * 15)), fun W => by
    have := run_slice_l (P := Try.prog) W 41 A9 k c9 undE .i64 (k : Int) (by omega) (by omega)
    rw [this, sizeE]
    simp [sliced]⟩
  clear ht2 HT h
  go_wp2_with fail
  go_ret
  exact ⟨⟨_, _, rfl⟩, hI, hb⟩
/-- the last steps: their kinds and places -/
theorem c_sinceG (h : In W base b D n) (hn : n ≤ 800000) (k m : Nat) (hk : D.trace.length = k + m) :
    Calls Try.prog 48 #[.pointer (some ⟨b, 0, none⟩), .int .i64 (k : Int)] W fun e w' => (∃ A cap, e = .returned (.slice A m cap) ∧ ∀ j x, D.trace[k + j]? = some x → ∃ g, A = some ⟨g, k * 15, none⟩ ∧ w'.cell? ⟨g, (k + j) * 15, none⟩ = some (.int .i64 x.kind) ∧ w'.cell? ⟨g, (k + j) * 15 + 1, none⟩ = some (.int .i64 x.at_)) ∧ In w' base b D n ∧ Below W.heap.size W w' := by
  rcases Nat.eq_zero_or_pos m with h0 | h0
  · subst h0
    refine (c_since0 h hn k hk).mono ?_
    rintro e w' ⟨⟨A, cap, rfl⟩, hI, hb⟩
    refine ⟨⟨A, cap, rfl, fun j x hx => ?_⟩, hI, hb⟩
    rw [List.getElem?_eq_none (by omega)] at hx
    cases hx
  · refine (c_since h hn k m hk h0).mono ?_
    rintro e w' ⟨⟨g, cap, rfl, -, -, hs⟩, hI, hb⟩
    refine ⟨⟨_, cap, rfl, fun j x hx => ?_⟩, hI, hb⟩
    obtain ⟨A, c, -, -, hc⟩ := hs j x hx
    exact ⟨g, rfl, hc 0 _ rfl, hc 1 _ rfl⟩
end Go.Proofs.Ytmdmhjcdaejlkaa

/- slices.Grow of nothing, slices.Concat: of any length that memory holds. -/
set_option linter.unusedVariables false
set_option linter.unusedSimpArgs false
namespace Go.Proofs.Ytmdmhjcdaejlkaa
open Go.RowKit

theorem run_zerosNilR (w : World) (base k : Nat) (ty : TypeId) (hk : 0 < k) (hm : k ≤ 140737488355328) (hb : base ≤ w.heap.size) :
    ∃ c w', (Builtin.append_ #[24, 3] ty #[.slice none 0 0, .int .i64 (k : Int)]).run Try.prog w = .ok (.slice (some ⟨w.heap.size, 0, none⟩) k c) w' ∧ OwnB w' base 5 (.slice (some ⟨w.heap.size, 0, none⟩) k c) (List.replicate k 0) ∧ Below w.heap.size w w' ∧ k ≤ c := by
  obtain ⟨i, hi, hz, hs, hby⟩ := info_parts8
  have hti : Try.prog.underlying 3 = some (.int .i64) := Try.underlying3
  have htb := Try.underlying24
  have hold : (Builtin.firstCells i.size 0 (.slice none 0 0)).run Try.prog w.drew = .ok ([] : List Value).toArray w.drew := by simp [Builtin.firstCells]
  have hrun := Go.Lib.run_append_grow_zeros (P := Try.prog) w 24 3 ty 5 i (.int .u8 0) .i64 .i64 htb hti hi hz none 0 0 [] hold k hk (by omega) (by omega) (by omega) (by rw [hby]; omega) (by
    have := nextslicecap_le (need := 0 + k) (old := 0) (by omega)
    rw [hby]; omega)
  rw [Nat.zero_add] at hrun
  refine ⟨_, _, hrun, ?_, (show Below w.heap.size w w.drew from below_drew (Below.refl _ _)).alloc (Nat.le_refl _) _, grownCap_ge w k 0 5⟩
  have hge := grownCap_ge w k 0 5
  have hcm2 := grownCap_le_maxLen w k 0 5 (by unfold maxLen; omega)
  unfold OwnB
  rw [List.length_replicate]
  refine ⟨by simp [bv_length], .inr ⟨w.heap.size, _, _, rfl, hb, heap_alloc_new w.drew _, hge, hcm2, ?_, ?_⟩⟩
  · simp [Builtin.zeroCells, Value.cells]; omega
  · simp only [Array.toList_append, List.toList_toArray, zc_list, Nat.mul_one, List.nil_append]
    rw [bv_rep, List.take_append_of_le_length (by simp), List.take_of_length_le (by simp)]
set_option maxHeartbeats 1000000 in
set_option maxRecDepth 100000 in
theorem c_growR (n : Nat) (w : World) (h0 : 0 < n) (hm : n ≤ 140737488355328) :
    Calls Try.prog 90 #[.slice none 0 0, .int .i64 (n : Int)] w fun e w' => ∃ v, e = .returned v ∧ OwnB w' w.heap.size 5 v [] ∧ Below w.heap.size w w' := by
  obtain ⟨c, w1, hrun, ho, hb, hkc⟩ := run_zerosNilR w w.heap.size n 24 h0 hm (Nat.le_refl _)
  have e0 := run_nil0
  have hi : ¬ ((n : Int) < 0) := by omega
  have hp : (0 : Int) < (n : Int) := by omega
  have e1 := fun W => run_cut0 W w.heap.size n c hkc
  go_enter Try.func90, Try.ntmps90
  go_wp2_with (at_builtin; refine wpl_appRun rfl rfl rfl rfl hrun ?_)
  go_ret
  exact ⟨_, rfl, own_cut0 ho, hb⟩
def PartsR (W : World) (ad : Addr) (xss : List (List UInt8)) : Prop := ∀ (i : Nat) xs, xss[i]? = some xs → ∃ (A : Option Addr) (c : Nat), W.cell? (ad.add i) = some (.slice A xs.length c) ∧ RdB W A xs.length xs
theorem PartsR.below {W W' : World} {ad : Addr} {xss : List (List UInt8)} {B : Nat} (h : PartsR W ad xss) (hb : Below B W W') (hB : W.heap.size ≤ B) (had : ad.block < W.heap.size) : PartsR W' ad xss := by
  intro i xs hi
  obtain ⟨A, c, h1, h2⟩ := h i xs hi
  exact ⟨A, c, by rw [World.cell?_of_block (hb.block _ (by rw [ad_block]; omega))]; exact h1, h2.below hb hB⟩
theorem partsR2 {W : World} {g : Nat} {T : TypeId} {A B : Option Addr} {c d : Nat} {xs ys : List UInt8} (h : Row W g #[.slice A xs.length c, .slice B ys.length d] T) (hx : RdB W A xs.length xs) (hy : RdB W B ys.length ys) : PartsR W ⟨g, 0, none⟩ [xs, ys] := by
  intro i us hu
  match i, hu with
  | 0, hu => cases hu; exact ⟨A, c, by rw [ad_none]; exact h.cell 0 rfl, hx⟩
  | 1, hu => cases hu; exact ⟨B, d, by rw [ad_none]; exact h.cell 1 rfl, hy⟩
  | i + 2, hu => simp at hu
set_option maxHeartbeats 2000000 in
set_option maxRecDepth 100000 in
theorem c_concatR (ad : Addr) (cap : Nat) (xss : List (List UInt8)) (w : World) (hP : PartsR w ad xss) (had : ad.block < w.heap.size) (hn : xss.length ≤ 1000) (h0 : 0 < xss.flatten.length) (hm : xss.flatten.length ≤ 140737488355328) :
    Calls Try.prog 73 #[.slice (some ad) xss.length cap] w fun e w' => ∃ v, e = .returned v ∧ OwnB w' w.heap.size 5 v xss.flatten ∧ Below w.heap.size w w' := by
  have hle : ∀ k, (xss.take k).flatten.length ≤ xss.flatten.length := by
    intro k
    conv => rhs; rw [← List.take_append_drop k xss, List.flatten_append, List.length_append]
    omega
  generalize hN : xss.length = N at *
  have HN := Lib.hid hN
  have HLE := Lib.hid hle
  clear hN hle
  generalize hF : xss.flatten.length = F at *
  have HF := Lib.hid hF
  have HM := Lib.hid hm
  clear hF hm
  go_enter Try.func73, Try.ntmps73
  go_wp2
  go_loop [3, 11] (fun s i => ∃ k : Nat, k ≤ N ∧ i = .int .i64 (k : Int) ∧ s = .int .i64 ((xss.take k).flatten.length : Nat)) (fun _ i => N - (intOf i).toNat)
  case atStart => exact ⟨0, by omega, rfl, rfl⟩
  case round =>
    obtain ⟨k, hk, rfl, rfl⟩ := hrel
    by_cases hlt : k < N
    · have hlt2 : (k : Int) < (N : Int) := by omega
      obtain ⟨xs, hxs⟩ : ∃ xs, xss[k]? = some xs := ⟨_, List.getElem?_eq_getElem (by rw [HN.out]; exact hlt)⟩
      obtain ⟨A, c, hcell, hR⟩ := hP k xs hxs
      have hfl := congrArg List.length (flat_snoc xss k xs hxs)
      rw [List.length_append] at hfl
      have hle := HLE.out (k + 1)
      generalize (xss.take k).flatten.length = p at *
      generalize hL : xs.length = L at *
      have HL := Lib.hid hL
      have HFL := Lib.hid hfl
      have hwr : IntKind.i64.wrap ((p : Int) + (L : Int)) = (p : Int) + (L : Int) := IntWalk.i64_in _ (by have := HM.out; omega)
      clear hL hfl hle
      have hnn : ¬ ((p : Int) + (L : Int) < 0) := by omega
      go_wp2
      go_round
      case rel => exact ⟨k + 1, by omega, by go_num, by rw [HFL.out]; go_num⟩
      case measure => simp [intOf]; omega
    · obtain rfl : k = N := by omega
      rw [List.take_of_length_le (by rw [HN.out]; exact Nat.le_refl _), HF.out]
      go_wp2_with (go_at_call 90; (with_reducible refine (c_growR F w h0 HM.out).mono ?_); rintro e w1 ⟨v1, rfl, ho1, hb1⟩)
      have hP1 := hP.below hb1 (Nat.le_refl _) had
      go_loopw [6, 27] (fun s i wr => ∃ j : Nat, j ≤ k ∧ i = .int .i64 (j : Int) ∧ OwnB wr w.heap.size 5 s (xss.take j).flatten ∧ PartsR wr ad xss ∧ Below w.heap.size w wr) (fun _ i _ => k - (intOf i).toNat)
      case atStart => exact ⟨0, by omega, rfl, ho1, hP1, hb1⟩
      case round =>
        clear ho1 hP1 hb1
        obtain ⟨j, hj, rfl, ho, hPr, hb⟩ := hrel
        by_cases hlj : j < k
        · have hlj2 : (j : Int) < (k : Int) := by omega
          obtain ⟨xs, hxs⟩ : ∃ xs, xss[j]? = some xs := ⟨_, List.getElem?_eq_getElem (by rw [HN.out]; exact hlj)⟩
          obtain ⟨A, c, hcell, hR⟩ := hPr j xs hxs
          have hfl := flat_snoc xss j xs hxs
          have hle := HLE.out j
          have HFL := Lib.hid hfl
          have hlm : (xss.take j).flatten.length + xs.length ≤ 140737488355328 := by
            have h2 := HLE.out (j + 1)
            rw [hfl, List.length_append] at h2
            have := HM.out
            omega
          have HLM := Lib.hid hlm
          clear hfl hle hlm
          generalize (xss.take j).flatten = pre at *
          generalize hL : xs.length = L at *
          have HL := Lib.hid hL
          clear hL
          go_upto_region 14 with (at_builtin; refine wpl_cat (w0 := w) rfl _ _ 24 rfl w.heap.size 5 Try.underlying24 info_u8 ho rfl hR rfl hb hb.size HLM.out ?_; intro v2 w2 ho2 hb2 hg2 hv2)
          have hP2 : PartsR w2 ad xss := by
            intro i ys hi
            obtain ⟨A', c', h1, h2⟩ := hP i ys hi
            exact ⟨A', c', by rw [World.cell?_of_block (hb2.block _ (by rw [ad_block]; exact had))]; exact h1, h2.below hb2 (Nat.le_refl _)⟩
          go_wp2
          go_roundw
          case rel => exact ⟨j + 1, by omega, by go_num, by rw [HFL.out]; exact ho2, hP2, hb2⟩
          case measure => simp [intOf]; omega
        · obtain rfl : j = k := by omega
          rw [List.take_of_length_le (by rw [HN.out]; exact Nat.le_refl _)] at ho
          go_wp2
          go_ret
          exact ⟨_, rfl, ho, hb⟩
end Go.Proofs.Ytmdmhjcdaejlkaa

/- The log: Add of any record; Add while the power goes. -/
set_option linter.unusedVariables false
set_option linter.unusedSimpArgs false
namespace Go.Proofs.Ytmdmhjcdaejlkaa
open Go.RowKit

/-- slices.Concat of two -/
theorem c_cat2R (w : World) (A B : Option Addr) (n m c d : Nat) (xs ys : List UInt8) (hx : RdB w A n xs) (hy : RdB w B m ys) (h0 : 0 < n) (h2 : n + m ≤ 140737488355328) :
    Calls Try.prog 73 #[.slice (some ⟨w.heap.size, 0, none⟩) 2 2] (w.alloc (.cells #[.slice A n c, .slice B m d] 24)) fun e w' => ∃ v, e = .returned v ∧ OwnB w' w.heap.size 5 v (xs ++ ys) ∧ Below w.heap.size w w' ∧ KpP (w.alloc (.cells #[.slice A n c, .slice B m d] 24)) w' := by
  have lx := hx.len
  have ly := hy.len
  have hb := below_alloc (Below.refl w.heap.size w) (.cells #[.slice A n c, .slice B m d] 24)
  have hrow := Row.new w #[.slice A n c, .slice B m d] 24
  have hP : PartsR (w.alloc (.cells #[.slice A n c, .slice B m d] 24)) ⟨w.heap.size, 0, none⟩ [xs, ys] := partsR2 (A := A) (B := B) (c := c) (d := d) (by rw [lx, ly]; exact hrow) (by rw [lx]; exact Rd.below hx hb (Nat.le_refl _)) (by rw [ly]; exact Rd.below hy hb (Nat.le_refl _)) 
  have hfl : [xs, ys].flatten = xs ++ ys := by simp
  have hcc := c_concatR ⟨w.heap.size, 0, none⟩ 2 [xs, ys] _ hP (by simp) (by simp) (by rw [hfl, List.length_append]; omega) (by rw [hfl, List.length_append]; omega)
  rw [hfl] at hcc
  refine hcc.mono ?_
  rintro e w' ⟨v, rfl, h3, h4⟩
  exact ⟨v, rfl, h3.mono hb.size, hb.trans (h4.mono hb.size), h4⟩
variable {W : World} {r g b base nn at_ size epoch n boot seq : Nat} {key : List UInt8} {D : Dk}
set_option maxHeartbeats 4000000 in
set_option maxRecDepth 100000 in
theorem c_addA (h : RingAt W r g at_ size epoch n) (hP : PenAt W g b key boot seq) (hI : In W base b D nn) (hn : nn ≤ 700000) (hrb : base ≤ r) (hgb : base ≤ g) (hrg : r ≠ g) (hroom : n < size) (hsz : size ≤ 100000) (hat : at_ ≤ 100000) (hg : D.goes = false) (A : Option Addr) (m c : Nat) (rec : List UInt8) (hR : RdB W A m rec) (hm : 12 + m ≤ 140737488355328) (hq : seq < 18446744073709551615) (ok : Bool) (hf : fitsB (12 + m) D.size = ok)
    (hg2 : ok = true → (addWr D key boot seq at_ n epoch rec).goes = false) :
    Calls Try.prog 38 #[.pointer (some ⟨r, 0, none⟩), .slice A m c] W fun e w' => e = .returned (.bool ok) ∧ In w' base b (if ok = true then (addWr D key boot seq at_ n epoch rec).flush else D) (nn + 2) ∧ PenAt w' g b key boot (if ok = true then seq + 1 else seq) ∧ RingAt w' r g at_ size epoch (if ok = true then n + 1 else n) ∧ PX [g, r] base W w' := by
  have hd : RingAt W.drew r g at_ size epoch n := ⟨h.row⟩
  have hPd : PenAt W.drew g b key boot seq := ⟨hP.row, hP.kl, hP.bl⟩
  have hId := hI.below (below_drew (Below.refl W.heap.size W))
  have hRd : RdB W.drew A m rec := hR
  have hlr : rec.length = m := hR.len
  have hglt : g < W.drew.heap.size := hP.lt
  have hrlt : r < W.drew.heap.size := h.lt
  have hle : base ≤ W.drew.heap.size := hI.le
  have k0 : W.drew.cell? ⟨r, 0, none⟩ = some (.pointer (some ⟨g, 0, none⟩)) := hd.row.cell 0 rfl
  have k1 : W.drew.cell? ⟨r, 1, none⟩ = some (.int .i64 (at_ : Int)) := hd.row.cell 1 rfl
  have k2 : W.drew.cell? ⟨r, 2, none⟩ = some (.int .i64 (size : Int)) := hd.row.cell 2 rfl
  have k3 : W.drew.cell? ⟨r, 3, none⟩ = some (.int .u64 (epoch : Int)) := hd.row.cell 3 rfl
  have k4 : W.drew.cell? ⟨r, 4, none⟩ = some (.int .i64 (n : Int)) := hd.row.cell 4 rfl
  have hgd : decide ((n : Int) ≥ (size : Int)) = false := decide_eq_false (by omega)
  have hgn : decide (size ≤ n) = false := decide_eq_false (by omega)
  have hgl : ¬ size ≤ n := by omega
  obtain ⟨q, hqq⟩ : ∃ q, at_ + n = q := ⟨_, rfl⟩
  have hqi : (at_ : Int) + (n : Int) = (q : Int) := by omega
  have hwq : IntKind.i64.wrap (q : Int) = (q : Int) := IntWalk.i64_in _ (by omega)
  have hl12 := rhL_length epoch n
  have HL12 := Lib.hid hl12
  have hlp : (rhL epoch n ++ rec).length = 12 + m := by rw [List.length_append, hl12, hlr]
  have HLP := Lib.hid hlp
  have HHD := Lib.hid (c_rhead epoch n (by omega) W.drew)
  have HCAT := Lib.hid (fun w2 A2 d2 (hb2 : Below W.drew.heap.size W.drew w2) (hr2 : RdB w2 A2 12 (rhL epoch n)) => c_cat2R w2 A2 A 12 m d2 c (rhL epoch n) rec hr2 (hRd.below hb2 (Nat.le_refl _)) (by decide) hm)
  have HWR := Lib.hid (fun w3 A3 d3 (hb3 : Below W.drew.heap.size W.drew w3) (hr3 : RdB w3 A3 (12 + m) (rhL epoch n ++ rec)) => p_write (hPd.below hb3 hglt) (hId.below hb3) (by omega) hgb hg (q : Int) (wf_i64 (by omega) (by omega)) A3 (12 + m) d3 (rhL epoch n ++ rec) hr3 (Nat.zero_le _) hq ok hf)
  obtain ⟨y, hy⟩ : ∃ y : Nat, n + 1 = y := ⟨_, rfl⟩
  have hyi : (n : Int) + 1 = (y : Int) := by omega
  have hwy : IntKind.i64.wrap (y : Int) = (y : Int) := IntWalk.i64_in _ (by omega)
  have HADW := Lib.hid (show addWr D key boot seq at_ n epoch rec = D.write (q : Int) (sealL key boot seq (rhL epoch n ++ rec) D.size.toNat) by unfold addWr; rw [hqq])
  rw [HADW.out] at hg2 ⊢
  rw [hy]
  have HG2 := Lib.hid hg2
  generalize D.write (q : Int) (sealL key boot seq (rhL epoch n ++ rec) D.size.toNat) = D1 at *
  generalize rhL epoch n ++ rec = rr at *
  generalize rhL epoch n = hh at *
  clear hRd hlr hl12 hlp hf hg hg2 hR hm hq hroom hqq hI hP h hy HADW
  go_enter Try.func38, Try.ntmps38
  go_upto_region 1 with fail
  (refine wp_region_linN (KpP) (KpP) (wayKpP) (wayKpP) (fun _ _ h => h) (.free 0 (.free 1 (.free 2 (.hot 3 (.free 4 (.free 5 (.free 6 (.hot 7 (.free 8 (.free 9 (.free 10 (.free 11 (.free 12 (.hot 13 (.free 14 (.free 15 (.free 16 (.hot 17 (.free 18 (.free 19 (.free 20 (.hot 21 (.free 22 (.free 23 (.free 24 (.free 25 (.hot 26 (.free 27 (.free 28 (.free 29 (.hot 30 (.free 32 (.op 31 [(9, 31), (8, 9), (3, 8), (7, 8), (26, 31), (30, 31)] [13, 17, 21] [] (.op 33 [] [13, 17, 21] [] (.op 34 [] [13, 17, 21] [] (.op 35 [(13, 35), (22, 35), (17, 22), (21, 22)] [] [] (.free 36 (.free 37 .nil)))))))))))))))))))))))))))))))))))))) rfl (by kernel_rfl) (by kernel_rfl) (fun _ _ _ _ _ h => h) ?_; (first | (apply linN_free; (simp only [List.getElem?_toArray, List.getElem?_cons_succ, List.getElem?_cons_zero]; rfl); (rfl); (intro w'; (first | (go_simp; done) | (go_simp; with_reducible rfl) | (go_simp; go_bits; with_reducible rfl) | (go_simp; go_bits; done))); try simp only [Act.put, List.setIfInBounds_toArray, List.set_cons_zero, List.set_cons_succ]) | (apply linN_freeSkip; (simp only [List.getElem?_toArray, List.getElem?_cons_succ, List.getElem?_cons_zero]; rfl); (rfl); try simp only [Act.put, List.setIfInBounds_toArray, List.set_cons_zero, List.set_cons_succ])); (first | (apply linN_free; (simp only [List.getElem?_toArray, List.getElem?_cons_succ, List.getElem?_cons_zero]; rfl); (rfl); (intro w'; (first | (go_simp; done) | (go_simp; with_reducible rfl) | (go_simp; go_bits; with_reducible rfl) | (go_simp; go_bits; done))); try simp only [Act.put, List.setIfInBounds_toArray, List.set_cons_zero, List.set_cons_succ]) | (apply linN_freeSkip; (simp only [List.getElem?_toArray, List.getElem?_cons_succ, List.getElem?_cons_zero]; rfl); (rfl); try simp only [Act.put, List.setIfInBounds_toArray, List.set_cons_zero, List.set_cons_succ])); (first | (apply linN_free; (simp only [List.getElem?_toArray, List.getElem?_cons_succ, List.getElem?_cons_zero]; rfl); (rfl); (intro w'; (first | (go_simp; done) | (go_simp; with_reducible rfl) | (go_simp; go_bits; with_reducible rfl) | (go_simp; go_bits; done))); try simp only [Act.put, List.setIfInBounds_toArray, List.set_cons_zero, List.set_cons_succ]) | (apply linN_freeSkip; (simp only [List.getElem?_toArray, List.getElem?_cons_succ, List.getElem?_cons_zero]; rfl); (rfl); try simp only [Act.put, List.setIfInBounds_toArray, List.set_cons_zero, List.set_cons_succ])); (first | (apply linN_hot; (simp only [List.getElem?_toArray, List.getElem?_cons_succ, List.getElem?_cons_zero]; rfl); (rfl); (intro w' hb'; (try have k_k0 := kpP_cell hb' k0); (try have k_k1 := kpP_cell hb' k1); (try have k_k2 := kpP_cell hb' k2); (try have k_k3 := kpP_cell hb' k3); (try have k_k4 := kpP_cell hb' k4); (first | (go_simp; done) | (go_simp; with_reducible rfl) | (go_simp; go_bits; with_reducible rfl) | (go_simp; go_bits; done))); try simp only [Act.put, List.setIfInBounds_toArray, List.set_cons_zero, List.set_cons_succ]) | (apply linN_hotSkip; (simp only [List.getElem?_toArray, List.getElem?_cons_succ, List.getElem?_cons_zero]; rfl); (rfl); try simp only [Act.put, List.setIfInBounds_toArray, List.set_cons_zero, List.set_cons_succ])); (first | (apply linN_free; (simp only [List.getElem?_toArray, List.getElem?_cons_succ, List.getElem?_cons_zero]; rfl); (rfl); (intro w'; (first | (go_simp; done) | (go_simp; with_reducible rfl) | (go_simp; go_bits; with_reducible rfl) | (go_simp; go_bits; done))); try simp only [Act.put, List.setIfInBounds_toArray, List.set_cons_zero, List.set_cons_succ]) | (apply linN_freeSkip; (simp only [List.getElem?_toArray, List.getElem?_cons_succ, List.getElem?_cons_zero]; rfl); (rfl); try simp only [Act.put, List.setIfInBounds_toArray, List.set_cons_zero, List.set_cons_succ])); (first | (apply linN_free; (simp only [List.getElem?_toArray, List.getElem?_cons_succ, List.getElem?_cons_zero]; rfl); (rfl); (intro w'; (first | (go_simp; done) | (go_simp; with_reducible rfl) | (go_simp; go_bits; with_reducible rfl) | (go_simp; go_bits; done))); try simp only [Act.put, List.setIfInBounds_toArray, List.set_cons_zero, List.set_cons_succ]) | (apply linN_freeSkip; (simp only [List.getElem?_toArray, List.getElem?_cons_succ, List.getElem?_cons_zero]; rfl); (rfl); try simp only [Act.put, List.setIfInBounds_toArray, List.set_cons_zero, List.set_cons_succ])); (first | (apply linN_free; (simp only [List.getElem?_toArray, List.getElem?_cons_succ, List.getElem?_cons_zero]; rfl); (rfl); (intro w'; (first | (go_simp; done) | (go_simp; with_reducible rfl) | (go_simp; go_bits; with_reducible rfl) | (go_simp; go_bits; done))); try simp only [Act.put, List.setIfInBounds_toArray, List.set_cons_zero, List.set_cons_succ]) | (apply linN_freeSkip; (simp only [List.getElem?_toArray, List.getElem?_cons_succ, List.getElem?_cons_zero]; rfl); (rfl); try simp only [Act.put, List.setIfInBounds_toArray, List.set_cons_zero, List.set_cons_succ])); (first | (apply linN_hot; (simp only [List.getElem?_toArray, List.getElem?_cons_succ, List.getElem?_cons_zero]; rfl); (rfl); (intro w' hb'; (try have k_k0 := kpP_cell hb' k0); (try have k_k1 := kpP_cell hb' k1); (try have k_k2 := kpP_cell hb' k2); (try have k_k3 := kpP_cell hb' k3); (try have k_k4 := kpP_cell hb' k4); (first | (go_simp; done) | (go_simp; with_reducible rfl) | (go_simp; go_bits; with_reducible rfl) | (go_simp; go_bits; done))); try simp only [Act.put, List.setIfInBounds_toArray, List.set_cons_zero, List.set_cons_succ]) | (apply linN_hotSkip; (simp only [List.getElem?_toArray, List.getElem?_cons_succ, List.getElem?_cons_zero]; rfl); (rfl); try simp only [Act.put, List.setIfInBounds_toArray, List.set_cons_zero, List.set_cons_succ])); (first | (apply linN_free; (simp only [List.getElem?_toArray, List.getElem?_cons_succ, List.getElem?_cons_zero]; rfl); (rfl); (intro w'; (first | (go_simp; done) | (go_simp; with_reducible rfl) | (go_simp; go_bits; with_reducible rfl) | (go_simp; go_bits; done))); try simp only [Act.put, List.setIfInBounds_toArray, List.set_cons_zero, List.set_cons_succ]) | (apply linN_freeSkip; (simp only [List.getElem?_toArray, List.getElem?_cons_succ, List.getElem?_cons_zero]; rfl); (rfl); try simp only [Act.put, List.setIfInBounds_toArray, List.set_cons_zero, List.set_cons_succ])); (first | (apply linN_free; (simp only [List.getElem?_toArray, List.getElem?_cons_succ, List.getElem?_cons_zero]; rfl); (rfl); (intro w'; (first | (go_simp; done) | (go_simp; with_reducible rfl) | (go_simp; go_bits; with_reducible rfl) | (go_simp; go_bits; done))); try simp only [Act.put, List.setIfInBounds_toArray, List.set_cons_zero, List.set_cons_succ]) | (apply linN_freeSkip; (simp only [List.getElem?_toArray, List.getElem?_cons_succ, List.getElem?_cons_zero]; rfl); (rfl); try simp only [Act.put, List.setIfInBounds_toArray, List.set_cons_zero, List.set_cons_succ])); (first | (apply linN_free; (simp only [List.getElem?_toArray, List.getElem?_cons_succ, List.getElem?_cons_zero]; rfl); (rfl); (intro w'; (first | (go_simp; done) | (go_simp; with_reducible rfl) | (go_simp; go_bits; with_reducible rfl) | (go_simp; go_bits; done))); try simp only [Act.put, List.setIfInBounds_toArray, List.set_cons_zero, List.set_cons_succ]) | (apply linN_freeSkip; (simp only [List.getElem?_toArray, List.getElem?_cons_succ, List.getElem?_cons_zero]; rfl); (rfl); try simp only [Act.put, List.setIfInBounds_toArray, List.set_cons_zero, List.set_cons_succ])); (first | (apply linN_free; (simp only [List.getElem?_toArray, List.getElem?_cons_succ, List.getElem?_cons_zero]; rfl); (rfl); (intro w'; (first | (go_simp; done) | (go_simp; with_reducible rfl) | (go_simp; go_bits; with_reducible rfl) | (go_simp; go_bits; done))); try simp only [Act.put, List.setIfInBounds_toArray, List.set_cons_zero, List.set_cons_succ]) | (apply linN_freeSkip; (simp only [List.getElem?_toArray, List.getElem?_cons_succ, List.getElem?_cons_zero]; rfl); (rfl); try simp only [Act.put, List.setIfInBounds_toArray, List.set_cons_zero, List.set_cons_succ])); (first | (apply linN_free; (simp only [List.getElem?_toArray, List.getElem?_cons_succ, List.getElem?_cons_zero]; rfl); (rfl); (intro w'; (first | (go_simp; done) | (go_simp; with_reducible rfl) | (go_simp; go_bits; with_reducible rfl) | (go_simp; go_bits; done))); try simp only [Act.put, List.setIfInBounds_toArray, List.set_cons_zero, List.set_cons_succ]) | (apply linN_freeSkip; (simp only [List.getElem?_toArray, List.getElem?_cons_succ, List.getElem?_cons_zero]; rfl); (rfl); try simp only [Act.put, List.setIfInBounds_toArray, List.set_cons_zero, List.set_cons_succ])); (first | (apply linN_hot; (simp only [List.getElem?_toArray, List.getElem?_cons_succ, List.getElem?_cons_zero]; rfl); (rfl); (intro w' hb'; (try have k_k0 := kpP_cell hb' k0); (try have k_k1 := kpP_cell hb' k1); (try have k_k2 := kpP_cell hb' k2); (try have k_k3 := kpP_cell hb' k3); (try have k_k4 := kpP_cell hb' k4); (first | (go_simp; done) | (go_simp; with_reducible rfl) | (go_simp; go_bits; with_reducible rfl) | (go_simp; go_bits; done))); try simp only [Act.put, List.setIfInBounds_toArray, List.set_cons_zero, List.set_cons_succ]) | (apply linN_hotSkip; (simp only [List.getElem?_toArray, List.getElem?_cons_succ, List.getElem?_cons_zero]; rfl); (rfl); try simp only [Act.put, List.setIfInBounds_toArray, List.set_cons_zero, List.set_cons_succ])); (first | (apply linN_free; (simp only [List.getElem?_toArray, List.getElem?_cons_succ, List.getElem?_cons_zero]; rfl); (rfl); (intro w'; (first | (go_simp; done) | (go_simp; with_reducible rfl) | (go_simp; go_bits; with_reducible rfl) | (go_simp; go_bits; done))); try simp only [Act.put, List.setIfInBounds_toArray, List.set_cons_zero, List.set_cons_succ]) | (apply linN_freeSkip; (simp only [List.getElem?_toArray, List.getElem?_cons_succ, List.getElem?_cons_zero]; rfl); (rfl); try simp only [Act.put, List.setIfInBounds_toArray, List.set_cons_zero, List.set_cons_succ])); (first | (apply linN_free; (simp only [List.getElem?_toArray, List.getElem?_cons_succ, List.getElem?_cons_zero]; rfl); (rfl); (intro w'; (first | (go_simp; done) | (go_simp; with_reducible rfl) | (go_simp; go_bits; with_reducible rfl) | (go_simp; go_bits; done))); try simp only [Act.put, List.setIfInBounds_toArray, List.set_cons_zero, List.set_cons_succ]) | (apply linN_freeSkip; (simp only [List.getElem?_toArray, List.getElem?_cons_succ, List.getElem?_cons_zero]; rfl); (rfl); try simp only [Act.put, List.setIfInBounds_toArray, List.set_cons_zero, List.set_cons_succ])); (first | (apply linN_free; (simp only [List.getElem?_toArray, List.getElem?_cons_succ, List.getElem?_cons_zero]; rfl); (rfl); (intro w'; (first | (go_simp; done) | (go_simp; with_reducible rfl) | (go_simp; go_bits; with_reducible rfl) | (go_simp; go_bits; done))); try simp only [Act.put, List.setIfInBounds_toArray, List.set_cons_zero, List.set_cons_succ]) | (apply linN_freeSkip; (simp only [List.getElem?_toArray, List.getElem?_cons_succ, List.getElem?_cons_zero]; rfl); (rfl); try simp only [Act.put, List.setIfInBounds_toArray, List.set_cons_zero, List.set_cons_succ])); (first | (apply linN_hot; (simp only [List.getElem?_toArray, List.getElem?_cons_succ, List.getElem?_cons_zero]; rfl); (rfl); (intro w' hb'; (try have k_k0 := kpP_cell hb' k0); (try have k_k1 := kpP_cell hb' k1); (try have k_k2 := kpP_cell hb' k2); (try have k_k3 := kpP_cell hb' k3); (try have k_k4 := kpP_cell hb' k4); (first | (go_simp; done) | (go_simp; with_reducible rfl) | (go_simp; go_bits; with_reducible rfl) | (go_simp; go_bits; done))); try simp only [Act.put, List.setIfInBounds_toArray, List.set_cons_zero, List.set_cons_succ]) | (apply linN_hotSkip; (simp only [List.getElem?_toArray, List.getElem?_cons_succ, List.getElem?_cons_zero]; rfl); (rfl); try simp only [Act.put, List.setIfInBounds_toArray, List.set_cons_zero, List.set_cons_succ])); (first | (apply linN_free; (simp only [List.getElem?_toArray, List.getElem?_cons_succ, List.getElem?_cons_zero]; rfl); (rfl); (intro w'; (first | (go_simp; done) | (go_simp; with_reducible rfl) | (go_simp; go_bits; with_reducible rfl) | (go_simp; go_bits; done))); try simp only [Act.put, List.setIfInBounds_toArray, List.set_cons_zero, List.set_cons_succ]) | (apply linN_freeSkip; (simp only [List.getElem?_toArray, List.getElem?_cons_succ, List.getElem?_cons_zero]; rfl); (rfl); try simp only [Act.put, List.setIfInBounds_toArray, List.set_cons_zero, List.set_cons_succ])); (first | (apply linN_free; (simp only [List.getElem?_toArray, List.getElem?_cons_succ, List.getElem?_cons_zero]; rfl); (rfl); (intro w'; (first | (go_simp; done) | (go_simp; with_reducible rfl) | (go_simp; go_bits; with_reducible rfl) | (go_simp; go_bits; done))); try simp only [Act.put, List.setIfInBounds_toArray, List.set_cons_zero, List.set_cons_succ]) | (apply linN_freeSkip; (simp only [List.getElem?_toArray, List.getElem?_cons_succ, List.getElem?_cons_zero]; rfl); (rfl); try simp only [Act.put, List.setIfInBounds_toArray, List.set_cons_zero, List.set_cons_succ])); (first | (apply linN_free; (simp only [List.getElem?_toArray, List.getElem?_cons_succ, List.getElem?_cons_zero]; rfl); (rfl); (intro w'; (first | (go_simp; done) | (go_simp; with_reducible rfl) | (go_simp; go_bits; with_reducible rfl) | (go_simp; go_bits; done))); try simp only [Act.put, List.setIfInBounds_toArray, List.set_cons_zero, List.set_cons_succ]) | (apply linN_freeSkip; (simp only [List.getElem?_toArray, List.getElem?_cons_succ, List.getElem?_cons_zero]; rfl); (rfl); try simp only [Act.put, List.setIfInBounds_toArray, List.set_cons_zero, List.set_cons_succ])); (first | (apply linN_hot; (simp only [List.getElem?_toArray, List.getElem?_cons_succ, List.getElem?_cons_zero]; rfl); (rfl); (intro w' hb'; (try have k_k0 := kpP_cell hb' k0); (try have k_k1 := kpP_cell hb' k1); (try have k_k2 := kpP_cell hb' k2); (try have k_k3 := kpP_cell hb' k3); (try have k_k4 := kpP_cell hb' k4); (first | (go_simp; done) | (go_simp; with_reducible rfl) | (go_simp; go_bits; with_reducible rfl) | (go_simp; go_bits; done))); try simp only [Act.put, List.setIfInBounds_toArray, List.set_cons_zero, List.set_cons_succ]) | (apply linN_hotSkip; (simp only [List.getElem?_toArray, List.getElem?_cons_succ, List.getElem?_cons_zero]; rfl); (rfl); try simp only [Act.put, List.setIfInBounds_toArray, List.set_cons_zero, List.set_cons_succ])); (first | (apply linN_free; (simp only [List.getElem?_toArray, List.getElem?_cons_succ, List.getElem?_cons_zero]; rfl); (rfl); (intro w'; (first | (go_simp; done) | (go_simp; with_reducible rfl) | (go_simp; go_bits; with_reducible rfl) | (go_simp; go_bits; done))); try simp only [Act.put, List.setIfInBounds_toArray, List.set_cons_zero, List.set_cons_succ]) | (apply linN_freeSkip; (simp only [List.getElem?_toArray, List.getElem?_cons_succ, List.getElem?_cons_zero]; rfl); (rfl); try simp only [Act.put, List.setIfInBounds_toArray, List.set_cons_zero, List.set_cons_succ])); (first | (apply linN_free; (simp only [List.getElem?_toArray, List.getElem?_cons_succ, List.getElem?_cons_zero]; rfl); (rfl); (intro w'; (first | (go_simp; done) | (go_simp; with_reducible rfl) | (go_simp; go_bits; with_reducible rfl) | (go_simp; go_bits; done))); try simp only [Act.put, List.setIfInBounds_toArray, List.set_cons_zero, List.set_cons_succ]) | (apply linN_freeSkip; (simp only [List.getElem?_toArray, List.getElem?_cons_succ, List.getElem?_cons_zero]; rfl); (rfl); try simp only [Act.put, List.setIfInBounds_toArray, List.set_cons_zero, List.set_cons_succ])); (first | (apply linN_free; (simp only [List.getElem?_toArray, List.getElem?_cons_succ, List.getElem?_cons_zero]; rfl); (rfl); (intro w'; (first | (go_simp; done) | (go_simp; with_reducible rfl) | (go_simp; go_bits; with_reducible rfl) | (go_simp; go_bits; done))); try simp only [Act.put, List.setIfInBounds_toArray, List.set_cons_zero, List.set_cons_succ]) | (apply linN_freeSkip; (simp only [List.getElem?_toArray, List.getElem?_cons_succ, List.getElem?_cons_zero]; rfl); (rfl); try simp only [Act.put, List.setIfInBounds_toArray, List.set_cons_zero, List.set_cons_succ])); (first | (apply linN_free; (simp only [List.getElem?_toArray, List.getElem?_cons_succ, List.getElem?_cons_zero]; rfl); (rfl); (intro w'; (first | (go_simp; done) | (go_simp; with_reducible rfl) | (go_simp; go_bits; with_reducible rfl) | (go_simp; go_bits; done))); try simp only [Act.put, List.setIfInBounds_toArray, List.set_cons_zero, List.set_cons_succ]) | (apply linN_freeSkip; (simp only [List.getElem?_toArray, List.getElem?_cons_succ, List.getElem?_cons_zero]; rfl); (rfl); try simp only [Act.put, List.setIfInBounds_toArray, List.set_cons_zero, List.set_cons_succ])); (first | (apply linN_hot; (simp only [List.getElem?_toArray, List.getElem?_cons_succ, List.getElem?_cons_zero]; rfl); (rfl); (intro w' hb'; (try have k_k0 := kpP_cell hb' k0); (try have k_k1 := kpP_cell hb' k1); (try have k_k2 := kpP_cell hb' k2); (try have k_k3 := kpP_cell hb' k3); (try have k_k4 := kpP_cell hb' k4); (first | (go_simp; done) | (go_simp; with_reducible rfl) | (go_simp; go_bits; with_reducible rfl) | (go_simp; go_bits; done))); try simp only [Act.put, List.setIfInBounds_toArray, List.set_cons_zero, List.set_cons_succ]) | (apply linN_hotSkip; (simp only [List.getElem?_toArray, List.getElem?_cons_succ, List.getElem?_cons_zero]; rfl); (rfl); try simp only [Act.put, List.setIfInBounds_toArray, List.set_cons_zero, List.set_cons_succ])); (first | (apply linN_free; (simp only [List.getElem?_toArray, List.getElem?_cons_succ, List.getElem?_cons_zero]; rfl); (rfl); (intro w'; (first | (go_simp; done) | (go_simp; with_reducible rfl) | (go_simp; go_bits; with_reducible rfl) | (go_simp; go_bits; done))); try simp only [Act.put, List.setIfInBounds_toArray, List.set_cons_zero, List.set_cons_succ]) | (apply linN_freeSkip; (simp only [List.getElem?_toArray, List.getElem?_cons_succ, List.getElem?_cons_zero]; rfl); (rfl); try simp only [Act.put, List.setIfInBounds_toArray, List.set_cons_zero, List.set_cons_succ])); (first | (apply linN_free; (simp only [List.getElem?_toArray, List.getElem?_cons_succ, List.getElem?_cons_zero]; rfl); (rfl); (intro w'; (first | (go_simp; done) | (go_simp; with_reducible rfl) | (go_simp; go_bits; with_reducible rfl) | (go_simp; go_bits; done))); try simp only [Act.put, List.setIfInBounds_toArray, List.set_cons_zero, List.set_cons_succ]) | (apply linN_freeSkip; (simp only [List.getElem?_toArray, List.getElem?_cons_succ, List.getElem?_cons_zero]; rfl); (rfl); try simp only [Act.put, List.setIfInBounds_toArray, List.set_cons_zero, List.set_cons_succ])); (first | (apply linN_free; (simp only [List.getElem?_toArray, List.getElem?_cons_succ, List.getElem?_cons_zero]; rfl); (rfl); (intro w'; (first | (go_simp; done) | (go_simp; with_reducible rfl) | (go_simp; go_bits; with_reducible rfl) | (go_simp; go_bits; done))); try simp only [Act.put, List.setIfInBounds_toArray, List.set_cons_zero, List.set_cons_succ]) | (apply linN_freeSkip; (simp only [List.getElem?_toArray, List.getElem?_cons_succ, List.getElem?_cons_zero]; rfl); (rfl); try simp only [Act.put, List.setIfInBounds_toArray, List.set_cons_zero, List.set_cons_succ])); (first | (apply linN_hot; (simp only [List.getElem?_toArray, List.getElem?_cons_succ, List.getElem?_cons_zero]; rfl); (rfl); (intro w' hb'; (try have k_k0 := kpP_cell hb' k0); (try have k_k1 := kpP_cell hb' k1); (try have k_k2 := kpP_cell hb' k2); (try have k_k3 := kpP_cell hb' k3); (try have k_k4 := kpP_cell hb' k4); (first | (go_simp; done) | (go_simp; with_reducible rfl) | (go_simp; go_bits; with_reducible rfl) | (go_simp; go_bits; done))); try simp only [Act.put, List.setIfInBounds_toArray, List.set_cons_zero, List.set_cons_succ]) | (apply linN_hotSkip; (simp only [List.getElem?_toArray, List.getElem?_cons_succ, List.getElem?_cons_zero]; rfl); (rfl); try simp only [Act.put, List.setIfInBounds_toArray, List.set_cons_zero, List.set_cons_succ])); (first | (apply linN_free; (simp only [List.getElem?_toArray, List.getElem?_cons_succ, List.getElem?_cons_zero]; rfl); (rfl); (intro w'; (first | (go_simp; done) | (go_simp; with_reducible rfl) | (go_simp; go_bits; with_reducible rfl) | (go_simp; go_bits; done))); try simp only [Act.put, List.setIfInBounds_toArray, List.set_cons_zero, List.set_cons_succ]) | (apply linN_freeSkip; (simp only [List.getElem?_toArray, List.getElem?_cons_succ, List.getElem?_cons_zero]; rfl); (rfl); try simp only [Act.put, List.setIfInBounds_toArray, List.set_cons_zero, List.set_cons_succ])); (first | (apply linN_pass (wayKpP) (wayKpP); (simp only [List.getElem?_toArray, List.getElem?_cons_succ, List.getElem?_cons_zero]; rfl); (rfl); try simp only [Act.put, List.setIfInBounds_toArray, List.set_cons_zero, List.set_cons_succ]) | (apply linN_op; (simp only [List.getElem?_toArray, List.getElem?_cons_succ, List.getElem?_cons_zero]; rfl); (rfl); intro K hK; (first | (go_simp; (first | (go_at_call 74; (with_reducible refine HHD.out.mono ?_); rintro e w2 ⟨v2, rfl, ho2, hb2⟩; have hdr2 : KpP _ w2 := hb2; (obtain ⟨A2, d2, rfl, ld2, -, hr2⟩ := ho2.form); (rw [HL12.out] at hr2 ld2 ⊢)) | (go_at_call 73; (with_reducible refine (HCAT.out w2 A2 d2 hb2 hr2).mono ?_); rintro e w3 ⟨v3, rfl, ho3, hb3, hdr2⟩; (obtain ⟨A3, d3, rfl, ld3, -, hr3⟩ := ho3.form); (rw [HLP.out] at hr3 ld3 ⊢)) | (go_at_call 19; (with_reducible refine (HWR.out w3 A3 d3 (below_two hb2 hb3) hr3).mono ?_); rintro e w4 ⟨rfl, hI4, hP4, hp4⟩) | skip))); refine hK _ _ ?_ ?_; (show (KpP) _ _; (first | exact hdr2 | assumption | exact (wayKpP).refl _ | exact (wayKpP).refl _ | exact Below.refl _ _ | exact ⟨rfl, rfl, rfl, Nat.le_refl _, fun _ _ => rfl⟩ | exact but_set _ _ _ _ _ | exact but_drew (but_set _ _ _ _ _) | exact but_upd (by assumption) | exact but_below (by assumption) | exact belowB_alloc (by first | omega | (simp; done) | (simp; omega)) _ | exact belowB_mono (by first | omega | (simp; done) | (simp; omega)) (by assumption) | (first | exact rg_alloc (by simp; omega) (by simp; omega) _ | exact FR.of_below (below_alloc (Below.refl _ _) _) (by first | assumption | (simp; omega)) | exact DR.of_below (below_alloc (Below.refl _ _) _) (by first | assumption | (simp; omega))))); clear hK; try simp only [Act.put, List.setIfInBounds_toArray, List.set_cons_zero, List.set_cons_succ])); (first | (apply linN_pass (wayKpP) (wayKpP); (simp only [List.getElem?_toArray, List.getElem?_cons_succ, List.getElem?_cons_zero]; rfl); (rfl); try simp only [Act.put, List.setIfInBounds_toArray, List.set_cons_zero, List.set_cons_succ]) | (apply linN_op; (simp only [List.getElem?_toArray, List.getElem?_cons_succ, List.getElem?_cons_zero]; rfl); (rfl); intro K hK; (first | (go_simp; (first | (go_at_call 74; (with_reducible refine HHD.out.mono ?_); rintro e w2 ⟨v2, rfl, ho2, hb2⟩; have hdr2 : KpP _ w2 := hb2; (obtain ⟨A2, d2, rfl, ld2, -, hr2⟩ := ho2.form); (rw [HL12.out] at hr2 ld2 ⊢)) | (go_at_call 73; (with_reducible refine (HCAT.out w2 A2 d2 hb2 hr2).mono ?_); rintro e w3 ⟨v3, rfl, ho3, hb3, hdr2⟩; (obtain ⟨A3, d3, rfl, ld3, -, hr3⟩ := ho3.form); (rw [HLP.out] at hr3 ld3 ⊢)) | (go_at_call 19; (with_reducible refine (HWR.out w3 A3 d3 (below_two hb2 hb3) hr3).mono ?_); rintro e w4 ⟨rfl, hI4, hP4, hp4⟩) | skip))); refine hK _ _ ?_ ?_; (show (KpP) _ _; (first | exact hdr2 | assumption | exact (wayKpP).refl _ | exact (wayKpP).refl _ | exact Below.refl _ _ | exact ⟨rfl, rfl, rfl, Nat.le_refl _, fun _ _ => rfl⟩ | exact but_set _ _ _ _ _ | exact but_drew (but_set _ _ _ _ _) | exact but_upd (by assumption) | exact but_below (by assumption) | exact belowB_alloc (by first | omega | (simp; done) | (simp; omega)) _ | exact belowB_mono (by first | omega | (simp; done) | (simp; omega)) (by assumption) | (first | exact rg_alloc (by simp; omega) (by simp; omega) _ | exact FR.of_below (below_alloc (Below.refl _ _) _) (by first | assumption | (simp; omega)) | exact DR.of_below (below_alloc (Below.refl _ _) _) (by first | assumption | (simp; omega))))); clear hK; try simp only [Act.put, List.setIfInBounds_toArray, List.set_cons_zero, List.set_cons_succ])); (first | (apply linN_pass (wayKpP) (wayKpP); (simp only [List.getElem?_toArray, List.getElem?_cons_succ, List.getElem?_cons_zero]; rfl); (rfl); try simp only [Act.put, List.setIfInBounds_toArray, List.set_cons_zero, List.set_cons_succ]) | (apply linN_op; (simp only [List.getElem?_toArray, List.getElem?_cons_succ, List.getElem?_cons_zero]; rfl); (rfl); intro K hK; (first | (go_simp; (first | (go_at_call 74; (with_reducible refine HHD.out.mono ?_); rintro e w2 ⟨v2, rfl, ho2, hb2⟩; have hdr2 : KpP _ w2 := hb2; (obtain ⟨A2, d2, rfl, ld2, -, hr2⟩ := ho2.form); (rw [HL12.out] at hr2 ld2 ⊢)) | (go_at_call 73; (with_reducible refine (HCAT.out w2 A2 d2 hb2 hr2).mono ?_); rintro e w3 ⟨v3, rfl, ho3, hb3, hdr2⟩; (obtain ⟨A3, d3, rfl, ld3, -, hr3⟩ := ho3.form); (rw [HLP.out] at hr3 ld3 ⊢)) | (go_at_call 19; (with_reducible refine (HWR.out w3 A3 d3 (below_two hb2 hb3) hr3).mono ?_); rintro e w4 ⟨rfl, hI4, hP4, hp4⟩) | skip))); refine hK _ _ ?_ ?_; (show (KpP) _ _; (first | exact hdr2 | assumption | exact (wayKpP).refl _ | exact (wayKpP).refl _ | exact Below.refl _ _ | exact ⟨rfl, rfl, rfl, Nat.le_refl _, fun _ _ => rfl⟩ | exact but_set _ _ _ _ _ | exact but_drew (but_set _ _ _ _ _) | exact but_upd (by assumption) | exact but_below (by assumption) | exact belowB_alloc (by first | omega | (simp; done) | (simp; omega)) _ | exact belowB_mono (by first | omega | (simp; done) | (simp; omega)) (by assumption) | (first | exact rg_alloc (by simp; omega) (by simp; omega) _ | exact FR.of_below (below_alloc (Below.refl _ _) _) (by first | assumption | (simp; omega)) | exact DR.of_below (below_alloc (Below.refl _ _) _) (by first | assumption | (simp; omega))))); clear hK; try simp only [Act.put, List.setIfInBounds_toArray, List.set_cons_zero, List.set_cons_succ])); (first | (apply linN_pass (wayKpP) (wayKpP); (simp only [List.getElem?_toArray, List.getElem?_cons_succ, List.getElem?_cons_zero]; rfl); (rfl); try simp only [Act.put, List.setIfInBounds_toArray, List.set_cons_zero, List.set_cons_succ]) | (apply linN_op; (simp only [List.getElem?_toArray, List.getElem?_cons_succ, List.getElem?_cons_zero]; rfl); (rfl); intro K hK; (first | (go_simp; (first | (go_at_call 74; (with_reducible refine HHD.out.mono ?_); rintro e w2 ⟨v2, rfl, ho2, hb2⟩; have hdr2 : KpP _ w2 := hb2; (obtain ⟨A2, d2, rfl, ld2, -, hr2⟩ := ho2.form); (rw [HL12.out] at hr2 ld2 ⊢)) | (go_at_call 73; (with_reducible refine (HCAT.out w2 A2 d2 hb2 hr2).mono ?_); rintro e w3 ⟨v3, rfl, ho3, hb3, hdr2⟩; (obtain ⟨A3, d3, rfl, ld3, -, hr3⟩ := ho3.form); (rw [HLP.out] at hr3 ld3 ⊢)) | (go_at_call 19; (with_reducible refine (HWR.out w3 A3 d3 (below_two hb2 hb3) hr3).mono ?_); rintro e w4 ⟨rfl, hI4, hP4, hp4⟩) | skip))); refine hK _ _ ?_ ?_; (exact trivial); clear hK; try simp only [Act.put, List.setIfInBounds_toArray, List.set_cons_zero, List.set_cons_succ])); (first | (apply linN_free; (simp only [List.getElem?_toArray, List.getElem?_cons_succ, List.getElem?_cons_zero]; rfl); (rfl); (intro w'; (first | (go_simp; done) | (go_simp; with_reducible rfl) | (go_simp; go_bits; with_reducible rfl) | (go_simp; go_bits; done))); try simp only [Act.put, List.setIfInBounds_toArray, List.set_cons_zero, List.set_cons_succ]) | (apply linN_freeSkip; (simp only [List.getElem?_toArray, List.getElem?_cons_succ, List.getElem?_cons_zero]; rfl); (rfl); try simp only [Act.put, List.setIfInBounds_toArray, List.set_cons_zero, List.set_cons_succ])); (first | (apply linN_free; (simp only [List.getElem?_toArray, List.getElem?_cons_succ, List.getElem?_cons_zero]; rfl); (rfl); (intro w'; (first | (go_simp; done) | (go_simp; with_reducible rfl) | (go_simp; go_bits; with_reducible rfl) | (go_simp; go_bits; done))); try simp only [Act.put, List.setIfInBounds_toArray, List.set_cons_zero, List.set_cons_succ]) | (apply linN_freeSkip; (simp only [List.getElem?_toArray, List.getElem?_cons_succ, List.getElem?_cons_zero]; rfl); (rfl); try simp only [Act.put, List.setIfInBounds_toArray, List.set_cons_zero, List.set_cons_succ])); refine linN_end ?_)
  have hB3 : Below W.heap.size W w3 := (below_drew (Below.refl W.heap.size W)).trans (show Below W.heap.size W.drew w3 from below_two hb2 hb3)
  have hR4 : RingAt w4 r g at_ size epoch n := (hd.below (below_two hb2 hb3) hrlt).pr hp4 hrg
  have hpx4 : PX [g, r] base W w4 := (PX.of_below hB3 hle).trans (PX.of_pr hp4 (by simp))
  clear k0 k1 k2 k3 k4 hgd hgn hgl hqi hwq HHD HCAT HWR hb2 hb3 ho2 ho3 hr2 hr3 hd hPd hId hdr2 hp4 hB3
  cases ok with
  | false =>
    simp only [Bool.false_eq_true, if_false] at hI4 hP4 ⊢
    have H := Lib.hid (And.intro (hI4.monoR (show nn + 1 ≤ nn + 2 by omega)) (And.intro hP4 (And.intro hR4 hpx4)))
    clear hI4 hP4 hR4 hpx4
    go_wp2_with fail
    go_ret
    exact ⟨rfl, H.out⟩
  | true =>
    simp only [if_true] at hI4 hP4 ⊢
    have k0 : w4.cell? ⟨r, 0, none⟩ = some (.pointer (some ⟨g, 0, none⟩)) := hR4.row.cell 0 rfl
    have HFL := Lib.hid (p_flush hP4 hI4 (by omega) (HG2.out rfl))
    go_upto_region 4 with (go_at_call 28; (with_reducible refine HFL.out.mono ?_); rintro e w5 ⟨rfl, hI5, hd5⟩)
    have hP5 := hP4.dr hd5
    have hR5 := hR4.dr hd5
    have hpx5 := hpx4.trans ((PX.of_pr (X := [g, r]) (PR.of_dr g hd5)) (by simp))
    have k4 : w5.cell? ⟨r, 4, none⟩ = some (.int .i64 (n : Int)) := hR5.row.cell 4 rfl
    have z4 := hR5.row.free 4
    have hI6 := hI5.set (j := 4) hR5.row (.int .i64 (y : Int)) (by decide) hrb
    have hP6 := hP5.set (j := 4) (.int .i64 (y : Int)) (Ne.symm hrg)
    have hR6 : RingAt (w5.setCell ⟨r, 4, none⟩ (.int .i64 (y : Int))) r g at_ size epoch y := ⟨hR5.row.set 4 (.int .i64 (y : Int))⟩
    have hpx6 := hpx5.trans (PX.set (X := [g, r]) (j := 4) (v := .int .i64 (y : Int)) hrb (by simp))
    have H := Lib.hid (And.intro hI6 (And.intro hP6 (And.intro hR6 hpx6)))
    clear hI4 hP4 hR4 hpx4 hI5 hP5 hR5 hpx5 hI6 hP6 hR6 hpx6 HFL k0 hd5
    go_wp2_with fail
    go_ret
    exact ⟨rfl, H.out⟩
set_option maxHeartbeats 4000000 in
set_option maxRecDepth 100000 in
theorem c_addNo1 (h : RingAt W r g at_ size epoch n) (hP : PenAt W g b key boot seq) (hI : In W base b D nn) (hn : nn ≤ 700000) (hrb : base ≤ r) (hgb : base ≤ g) (hrg : r ≠ g) (hroom : n < size) (hsz : size ≤ 100000) (hat : at_ ≤ 100000) (hg : D.goes = true) (A : Option Addr) (m c : Nat) (rec : List UInt8) (hR : RdB W A m rec) (hm : m ≤ 900000) (hq : seq < 18446744073709551615) (hf : fitsB (12 + m) D.size = true) :
    Calls Try.prog 38 #[.pointer (some ⟨r, 0, none⟩), .slice A m c] W fun e w' => e = gonePanic ∧ In w' base b D.dead nn ∧ PenAt w' g b key boot (seq + 1) ∧ RingAt w' r g at_ size epoch n ∧ PX [g, r] base W w' := by
  have hd : RingAt W.drew r g at_ size epoch n := ⟨h.row⟩
  have hPd : PenAt W.drew g b key boot seq := ⟨hP.row, hP.kl, hP.bl⟩
  have hId := hI.below (below_drew (Below.refl W.heap.size W))
  have hRd : RdB W.drew A m rec := hR
  have hlr : rec.length = m := hR.len
  have hglt : g < W.drew.heap.size := hP.lt
  have hrlt : r < W.drew.heap.size := h.lt
  have hle : base ≤ W.drew.heap.size := hI.le
  have k0 : W.drew.cell? ⟨r, 0, none⟩ = some (.pointer (some ⟨g, 0, none⟩)) := hd.row.cell 0 rfl
  have k1 : W.drew.cell? ⟨r, 1, none⟩ = some (.int .i64 (at_ : Int)) := hd.row.cell 1 rfl
  have k2 : W.drew.cell? ⟨r, 2, none⟩ = some (.int .i64 (size : Int)) := hd.row.cell 2 rfl
  have k3 : W.drew.cell? ⟨r, 3, none⟩ = some (.int .u64 (epoch : Int)) := hd.row.cell 3 rfl
  have k4 : W.drew.cell? ⟨r, 4, none⟩ = some (.int .i64 (n : Int)) := hd.row.cell 4 rfl
  have hgd : decide ((n : Int) ≥ (size : Int)) = false := decide_eq_false (by omega)
  have hgn : decide (size ≤ n) = false := decide_eq_false (by omega)
  have hgl : ¬ size ≤ n := by omega
  obtain ⟨q, hqq⟩ : ∃ q, at_ + n = q := ⟨_, rfl⟩
  have hqi : (at_ : Int) + (n : Int) = (q : Int) := by omega
  have hwq : IntKind.i64.wrap (q : Int) = (q : Int) := IntWalk.i64_in _ (by omega)
  have hl12 := rhL_length epoch n
  have HL12 := Lib.hid hl12
  have hlp : (rhL epoch n ++ rec).length = 12 + m := by rw [List.length_append, hl12, hlr]
  have HLP := Lib.hid hlp
  have HHD := Lib.hid (c_rhead epoch n (by omega) W.drew)
  have HCAT := Lib.hid (fun w2 A2 d2 (hb2 : Below W.drew.heap.size W.drew w2) (hr2 : RdB w2 A2 12 (rhL epoch n)) => c_cat2 w2 A2 A 12 m d2 c (rhL epoch n) rec hr2 (hRd.below hb2 (Nat.le_refl _)) (by decide) (by decide) (by omega))
  have HWR := Lib.hid (fun w3 A3 d3 (hb3 : Below W.drew.heap.size W.drew w3) (hr3 : RdB w3 A3 (12 + m) (rhL epoch n ++ rec)) => p_writeGone (hPd.below hb3 hglt) (hId.below hb3) hgb hg (q : Int) A3 (12 + m) d3 (rhL epoch n ++ rec) hr3 (Nat.zero_le _) hq hf)
  obtain ⟨y, hy⟩ : ∃ y : Nat, n + 1 = y := ⟨_, rfl⟩
  have hyi : (n : Int) + 1 = (y : Int) := by omega
  have hwy : IntKind.i64.wrap (y : Int) = (y : Int) := IntWalk.i64_in _ (by omega)
  generalize rhL epoch n ++ rec = rr at *
  generalize rhL epoch n = hh at *
  clear hRd hlr hl12 hlp hf hg hR hm hq hroom hqq hI hP h hy
  go_enter Try.func38, Try.ntmps38
  go_upto_region 1 with fail
  (refine wp_region_linN (KpP) (KpP) (wayKpP) (wayKpP) (fun _ _ h => h) (.free 0 (.free 1 (.free 2 (.hot 3 (.free 4 (.free 5 (.free 6 (.hot 7 (.free 8 (.free 9 (.free 10 (.free 11 (.free 12 (.hot 13 (.free 14 (.free 15 (.free 16 (.hot 17 (.free 18 (.free 19 (.free 20 (.hot 21 (.free 22 (.free 23 (.free 24 (.free 25 (.hot 26 (.free 27 (.free 28 (.free 29 (.hot 30 (.free 32 (.op 31 [(9, 31), (8, 9), (3, 8), (7, 8), (26, 31), (30, 31)] [13, 17, 21] [] (.op 33 [] [13, 17, 21] [] (.op 34 [] [13, 17, 21] [] (.op 35 [(13, 35), (22, 35), (17, 22), (21, 22)] [] [] (.free 36 (.free 37 .nil)))))))))))))))))))))))))))))))))))))) rfl (by kernel_rfl) (by kernel_rfl) (fun _ _ _ _ _ h => h) ?_; (first | (apply linN_free; (simp only [List.getElem?_toArray, List.getElem?_cons_succ, List.getElem?_cons_zero]; rfl); (rfl); (intro w'; (first | (go_simp; done) | (go_simp; with_reducible rfl) | (go_simp; go_bits; with_reducible rfl) | (go_simp; go_bits; done))); try simp only [Act.put, List.setIfInBounds_toArray, List.set_cons_zero, List.set_cons_succ]) | (apply linN_freeSkip; (simp only [List.getElem?_toArray, List.getElem?_cons_succ, List.getElem?_cons_zero]; rfl); (rfl); try simp only [Act.put, List.setIfInBounds_toArray, List.set_cons_zero, List.set_cons_succ])); (first | (apply linN_free; (simp only [List.getElem?_toArray, List.getElem?_cons_succ, List.getElem?_cons_zero]; rfl); (rfl); (intro w'; (first | (go_simp; done) | (go_simp; with_reducible rfl) | (go_simp; go_bits; with_reducible rfl) | (go_simp; go_bits; done))); try simp only [Act.put, List.setIfInBounds_toArray, List.set_cons_zero, List.set_cons_succ]) | (apply linN_freeSkip; (simp only [List.getElem?_toArray, List.getElem?_cons_succ, List.getElem?_cons_zero]; rfl); (rfl); try simp only [Act.put, List.setIfInBounds_toArray, List.set_cons_zero, List.set_cons_succ])); (first | (apply linN_free; (simp only [List.getElem?_toArray, List.getElem?_cons_succ, List.getElem?_cons_zero]; rfl); (rfl); (intro w'; (first | (go_simp; done) | (go_simp; with_reducible rfl) | (go_simp; go_bits; with_reducible rfl) | (go_simp; go_bits; done))); try simp only [Act.put, List.setIfInBounds_toArray, List.set_cons_zero, List.set_cons_succ]) | (apply linN_freeSkip; (simp only [List.getElem?_toArray, List.getElem?_cons_succ, List.getElem?_cons_zero]; rfl); (rfl); try simp only [Act.put, List.setIfInBounds_toArray, List.set_cons_zero, List.set_cons_succ])); (first | (apply linN_hot; (simp only [List.getElem?_toArray, List.getElem?_cons_succ, List.getElem?_cons_zero]; rfl); (rfl); (intro w' hb'; (try have k_k0 := kpP_cell hb' k0); (try have k_k1 := kpP_cell hb' k1); (try have k_k2 := kpP_cell hb' k2); (try have k_k3 := kpP_cell hb' k3); (try have k_k4 := kpP_cell hb' k4); (first | (go_simp; done) | (go_simp; with_reducible rfl) | (go_simp; go_bits; with_reducible rfl) | (go_simp; go_bits; done))); try simp only [Act.put, List.setIfInBounds_toArray, List.set_cons_zero, List.set_cons_succ]) | (apply linN_hotSkip; (simp only [List.getElem?_toArray, List.getElem?_cons_succ, List.getElem?_cons_zero]; rfl); (rfl); try simp only [Act.put, List.setIfInBounds_toArray, List.set_cons_zero, List.set_cons_succ])); (first | (apply linN_free; (simp only [List.getElem?_toArray, List.getElem?_cons_succ, List.getElem?_cons_zero]; rfl); (rfl); (intro w'; (first | (go_simp; done) | (go_simp; with_reducible rfl) | (go_simp; go_bits; with_reducible rfl) | (go_simp; go_bits; done))); try simp only [Act.put, List.setIfInBounds_toArray, List.set_cons_zero, List.set_cons_succ]) | (apply linN_freeSkip; (simp only [List.getElem?_toArray, List.getElem?_cons_succ, List.getElem?_cons_zero]; rfl); (rfl); try simp only [Act.put, List.setIfInBounds_toArray, List.set_cons_zero, List.set_cons_succ])); (first | (apply linN_free; (simp only [List.getElem?_toArray, List.getElem?_cons_succ, List.getElem?_cons_zero]; rfl); (rfl); (intro w'; (first | (go_simp; done) | (go_simp; with_reducible rfl) | (go_simp; go_bits; with_reducible rfl) | (go_simp; go_bits; done))); try simp only [Act.put, List.setIfInBounds_toArray, List.set_cons_zero, List.set_cons_succ]) | (apply linN_freeSkip; (simp only [List.getElem?_toArray, List.getElem?_cons_succ, List.getElem?_cons_zero]; rfl); (rfl); try simp only [Act.put, List.setIfInBounds_toArray, List.set_cons_zero, List.set_cons_succ])); (first | (apply linN_free; (simp only [List.getElem?_toArray, List.getElem?_cons_succ, List.getElem?_cons_zero]; rfl); (rfl); (intro w'; (first | (go_simp; done) | (go_simp; with_reducible rfl) | (go_simp; go_bits; with_reducible rfl) | (go_simp; go_bits; done))); try simp only [Act.put, List.setIfInBounds_toArray, List.set_cons_zero, List.set_cons_succ]) | (apply linN_freeSkip; (simp only [List.getElem?_toArray, List.getElem?_cons_succ, List.getElem?_cons_zero]; rfl); (rfl); try simp only [Act.put, List.setIfInBounds_toArray, List.set_cons_zero, List.set_cons_succ])); (first | (apply linN_hot; (simp only [List.getElem?_toArray, List.getElem?_cons_succ, List.getElem?_cons_zero]; rfl); (rfl); (intro w' hb'; (try have k_k0 := kpP_cell hb' k0); (try have k_k1 := kpP_cell hb' k1); (try have k_k2 := kpP_cell hb' k2); (try have k_k3 := kpP_cell hb' k3); (try have k_k4 := kpP_cell hb' k4); (first | (go_simp; done) | (go_simp; with_reducible rfl) | (go_simp; go_bits; with_reducible rfl) | (go_simp; go_bits; done))); try simp only [Act.put, List.setIfInBounds_toArray, List.set_cons_zero, List.set_cons_succ]) | (apply linN_hotSkip; (simp only [List.getElem?_toArray, List.getElem?_cons_succ, List.getElem?_cons_zero]; rfl); (rfl); try simp only [Act.put, List.setIfInBounds_toArray, List.set_cons_zero, List.set_cons_succ])); (first | (apply linN_free; (simp only [List.getElem?_toArray, List.getElem?_cons_succ, List.getElem?_cons_zero]; rfl); (rfl); (intro w'; (first | (go_simp; done) | (go_simp; with_reducible rfl) | (go_simp; go_bits; with_reducible rfl) | (go_simp; go_bits; done))); try simp only [Act.put, List.setIfInBounds_toArray, List.set_cons_zero, List.set_cons_succ]) | (apply linN_freeSkip; (simp only [List.getElem?_toArray, List.getElem?_cons_succ, List.getElem?_cons_zero]; rfl); (rfl); try simp only [Act.put, List.setIfInBounds_toArray, List.set_cons_zero, List.set_cons_succ])); (first | (apply linN_free; (simp only [List.getElem?_toArray, List.getElem?_cons_succ, List.getElem?_cons_zero]; rfl); (rfl); (intro w'; (first | (go_simp; done) | (go_simp; with_reducible rfl) | (go_simp; go_bits; with_reducible rfl) | (go_simp; go_bits; done))); try simp only [Act.put, List.setIfInBounds_toArray, List.set_cons_zero, List.set_cons_succ]) | (apply linN_freeSkip; (simp only [List.getElem?_toArray, List.getElem?_cons_succ, List.getElem?_cons_zero]; rfl); (rfl); try simp only [Act.put, List.setIfInBounds_toArray, List.set_cons_zero, List.set_cons_succ])); (first | (apply linN_free; (simp only [List.getElem?_toArray, List.getElem?_cons_succ, List.getElem?_cons_zero]; rfl); (rfl); (intro w'; (first | (go_simp; done) | (go_simp; with_reducible rfl) | (go_simp; go_bits; with_reducible rfl) | (go_simp; go_bits; done))); try simp only [Act.put, List.setIfInBounds_toArray, List.set_cons_zero, List.set_cons_succ]) | (apply linN_freeSkip; (simp only [List.getElem?_toArray, List.getElem?_cons_succ, List.getElem?_cons_zero]; rfl); (rfl); try simp only [Act.put, List.setIfInBounds_toArray, List.set_cons_zero, List.set_cons_succ])); (first | (apply linN_free; (simp only [List.getElem?_toArray, List.getElem?_cons_succ, List.getElem?_cons_zero]; rfl); (rfl); (intro w'; (first | (go_simp; done) | (go_simp; with_reducible rfl) | (go_simp; go_bits; with_reducible rfl) | (go_simp; go_bits; done))); try simp only [Act.put, List.setIfInBounds_toArray, List.set_cons_zero, List.set_cons_succ]) | (apply linN_freeSkip; (simp only [List.getElem?_toArray, List.getElem?_cons_succ, List.getElem?_cons_zero]; rfl); (rfl); try simp only [Act.put, List.setIfInBounds_toArray, List.set_cons_zero, List.set_cons_succ])); (first | (apply linN_free; (simp only [List.getElem?_toArray, List.getElem?_cons_succ, List.getElem?_cons_zero]; rfl); (rfl); (intro w'; (first | (go_simp; done) | (go_simp; with_reducible rfl) | (go_simp; go_bits; with_reducible rfl) | (go_simp; go_bits; done))); try simp only [Act.put, List.setIfInBounds_toArray, List.set_cons_zero, List.set_cons_succ]) | (apply linN_freeSkip; (simp only [List.getElem?_toArray, List.getElem?_cons_succ, List.getElem?_cons_zero]; rfl); (rfl); try simp only [Act.put, List.setIfInBounds_toArray, List.set_cons_zero, List.set_cons_succ])); (first | (apply linN_hot; (simp only [List.getElem?_toArray, List.getElem?_cons_succ, List.getElem?_cons_zero]; rfl); (rfl); (intro w' hb'; (try have k_k0 := kpP_cell hb' k0); (try have k_k1 := kpP_cell hb' k1); (try have k_k2 := kpP_cell hb' k2); (try have k_k3 := kpP_cell hb' k3); (try have k_k4 := kpP_cell hb' k4); (first | (go_simp; done) | (go_simp; with_reducible rfl) | (go_simp; go_bits; with_reducible rfl) | (go_simp; go_bits; done))); try simp only [Act.put, List.setIfInBounds_toArray, List.set_cons_zero, List.set_cons_succ]) | (apply linN_hotSkip; (simp only [List.getElem?_toArray, List.getElem?_cons_succ, List.getElem?_cons_zero]; rfl); (rfl); try simp only [Act.put, List.setIfInBounds_toArray, List.set_cons_zero, List.set_cons_succ])); (first | (apply linN_free; (simp only [List.getElem?_toArray, List.getElem?_cons_succ, List.getElem?_cons_zero]; rfl); (rfl); (intro w'; (first | (go_simp; done) | (go_simp; with_reducible rfl) | (go_simp; go_bits; with_reducible rfl) | (go_simp; go_bits; done))); try simp only [Act.put, List.setIfInBounds_toArray, List.set_cons_zero, List.set_cons_succ]) | (apply linN_freeSkip; (simp only [List.getElem?_toArray, List.getElem?_cons_succ, List.getElem?_cons_zero]; rfl); (rfl); try simp only [Act.put, List.setIfInBounds_toArray, List.set_cons_zero, List.set_cons_succ])); (first | (apply linN_free; (simp only [List.getElem?_toArray, List.getElem?_cons_succ, List.getElem?_cons_zero]; rfl); (rfl); (intro w'; (first | (go_simp; done) | (go_simp; with_reducible rfl) | (go_simp; go_bits; with_reducible rfl) | (go_simp; go_bits; done))); try simp only [Act.put, List.setIfInBounds_toArray, List.set_cons_zero, List.set_cons_succ]) | (apply linN_freeSkip; (simp only [List.getElem?_toArray, List.getElem?_cons_succ, List.getElem?_cons_zero]; rfl); (rfl); try simp only [Act.put, List.setIfInBounds_toArray, List.set_cons_zero, List.set_cons_succ])); (first | (apply linN_free; (simp only [List.getElem?_toArray, List.getElem?_cons_succ, List.getElem?_cons_zero]; rfl); (rfl); (intro w'; (first | (go_simp; done) | (go_simp; with_reducible rfl) | (go_simp; go_bits; with_reducible rfl) | (go_simp; go_bits; done))); try simp only [Act.put, List.setIfInBounds_toArray, List.set_cons_zero, List.set_cons_succ]) | (apply linN_freeSkip; (simp only [List.getElem?_toArray, List.getElem?_cons_succ, List.getElem?_cons_zero]; rfl); (rfl); try simp only [Act.put, List.setIfInBounds_toArray, List.set_cons_zero, List.set_cons_succ])); (first | (apply linN_hot; (simp only [List.getElem?_toArray, List.getElem?_cons_succ, List.getElem?_cons_zero]; rfl); (rfl); (intro w' hb'; (try have k_k0 := kpP_cell hb' k0); (try have k_k1 := kpP_cell hb' k1); (try have k_k2 := kpP_cell hb' k2); (try have k_k3 := kpP_cell hb' k3); (try have k_k4 := kpP_cell hb' k4); (first | (go_simp; done) | (go_simp; with_reducible rfl) | (go_simp; go_bits; with_reducible rfl) | (go_simp; go_bits; done))); try simp only [Act.put, List.setIfInBounds_toArray, List.set_cons_zero, List.set_cons_succ]) | (apply linN_hotSkip; (simp only [List.getElem?_toArray, List.getElem?_cons_succ, List.getElem?_cons_zero]; rfl); (rfl); try simp only [Act.put, List.setIfInBounds_toArray, List.set_cons_zero, List.set_cons_succ])); (first | (apply linN_free; (simp only [List.getElem?_toArray, List.getElem?_cons_succ, List.getElem?_cons_zero]; rfl); (rfl); (intro w'; (first | (go_simp; done) | (go_simp; with_reducible rfl) | (go_simp; go_bits; with_reducible rfl) | (go_simp; go_bits; done))); try simp only [Act.put, List.setIfInBounds_toArray, List.set_cons_zero, List.set_cons_succ]) | (apply linN_freeSkip; (simp only [List.getElem?_toArray, List.getElem?_cons_succ, List.getElem?_cons_zero]; rfl); (rfl); try simp only [Act.put, List.setIfInBounds_toArray, List.set_cons_zero, List.set_cons_succ])); (first | (apply linN_free; (simp only [List.getElem?_toArray, List.getElem?_cons_succ, List.getElem?_cons_zero]; rfl); (rfl); (intro w'; (first | (go_simp; done) | (go_simp; with_reducible rfl) | (go_simp; go_bits; with_reducible rfl) | (go_simp; go_bits; done))); try simp only [Act.put, List.setIfInBounds_toArray, List.set_cons_zero, List.set_cons_succ]) | (apply linN_freeSkip; (simp only [List.getElem?_toArray, List.getElem?_cons_succ, List.getElem?_cons_zero]; rfl); (rfl); try simp only [Act.put, List.setIfInBounds_toArray, List.set_cons_zero, List.set_cons_succ])); (first | (apply linN_free; (simp only [List.getElem?_toArray, List.getElem?_cons_succ, List.getElem?_cons_zero]; rfl); (rfl); (intro w'; (first | (go_simp; done) | (go_simp; with_reducible rfl) | (go_simp; go_bits; with_reducible rfl) | (go_simp; go_bits; done))); try simp only [Act.put, List.setIfInBounds_toArray, List.set_cons_zero, List.set_cons_succ]) | (apply linN_freeSkip; (simp only [List.getElem?_toArray, List.getElem?_cons_succ, List.getElem?_cons_zero]; rfl); (rfl); try simp only [Act.put, List.setIfInBounds_toArray, List.set_cons_zero, List.set_cons_succ])); (first | (apply linN_hot; (simp only [List.getElem?_toArray, List.getElem?_cons_succ, List.getElem?_cons_zero]; rfl); (rfl); (intro w' hb'; (try have k_k0 := kpP_cell hb' k0); (try have k_k1 := kpP_cell hb' k1); (try have k_k2 := kpP_cell hb' k2); (try have k_k3 := kpP_cell hb' k3); (try have k_k4 := kpP_cell hb' k4); (first | (go_simp; done) | (go_simp; with_reducible rfl) | (go_simp; go_bits; with_reducible rfl) | (go_simp; go_bits; done))); try simp only [Act.put, List.setIfInBounds_toArray, List.set_cons_zero, List.set_cons_succ]) | (apply linN_hotSkip; (simp only [List.getElem?_toArray, List.getElem?_cons_succ, List.getElem?_cons_zero]; rfl); (rfl); try simp only [Act.put, List.setIfInBounds_toArray, List.set_cons_zero, List.set_cons_succ])); (first | (apply linN_free; (simp only [List.getElem?_toArray, List.getElem?_cons_succ, List.getElem?_cons_zero]; rfl); (rfl); (intro w'; (first | (go_simp; done) | (go_simp; with_reducible rfl) | (go_simp; go_bits; with_reducible rfl) | (go_simp; go_bits; done))); try simp only [Act.put, List.setIfInBounds_toArray, List.set_cons_zero, List.set_cons_succ]) | (apply linN_freeSkip; (simp only [List.getElem?_toArray, List.getElem?_cons_succ, List.getElem?_cons_zero]; rfl); (rfl); try simp only [Act.put, List.setIfInBounds_toArray, List.set_cons_zero, List.set_cons_succ])); (first | (apply linN_free; (simp only [List.getElem?_toArray, List.getElem?_cons_succ, List.getElem?_cons_zero]; rfl); (rfl); (intro w'; (first | (go_simp; done) | (go_simp; with_reducible rfl) | (go_simp; go_bits; with_reducible rfl) | (go_simp; go_bits; done))); try simp only [Act.put, List.setIfInBounds_toArray, List.set_cons_zero, List.set_cons_succ]) | (apply linN_freeSkip; (simp only [List.getElem?_toArray, List.getElem?_cons_succ, List.getElem?_cons_zero]; rfl); (rfl); try simp only [Act.put, List.setIfInBounds_toArray, List.set_cons_zero, List.set_cons_succ])); (first | (apply linN_free; (simp only [List.getElem?_toArray, List.getElem?_cons_succ, List.getElem?_cons_zero]; rfl); (rfl); (intro w'; (first | (go_simp; done) | (go_simp; with_reducible rfl) | (go_simp; go_bits; with_reducible rfl) | (go_simp; go_bits; done))); try simp only [Act.put, List.setIfInBounds_toArray, List.set_cons_zero, List.set_cons_succ]) | (apply linN_freeSkip; (simp only [List.getElem?_toArray, List.getElem?_cons_succ, List.getElem?_cons_zero]; rfl); (rfl); try simp only [Act.put, List.setIfInBounds_toArray, List.set_cons_zero, List.set_cons_succ])); (first | (apply linN_free; (simp only [List.getElem?_toArray, List.getElem?_cons_succ, List.getElem?_cons_zero]; rfl); (rfl); (intro w'; (first | (go_simp; done) | (go_simp; with_reducible rfl) | (go_simp; go_bits; with_reducible rfl) | (go_simp; go_bits; done))); try simp only [Act.put, List.setIfInBounds_toArray, List.set_cons_zero, List.set_cons_succ]) | (apply linN_freeSkip; (simp only [List.getElem?_toArray, List.getElem?_cons_succ, List.getElem?_cons_zero]; rfl); (rfl); try simp only [Act.put, List.setIfInBounds_toArray, List.set_cons_zero, List.set_cons_succ])); (first | (apply linN_hot; (simp only [List.getElem?_toArray, List.getElem?_cons_succ, List.getElem?_cons_zero]; rfl); (rfl); (intro w' hb'; (try have k_k0 := kpP_cell hb' k0); (try have k_k1 := kpP_cell hb' k1); (try have k_k2 := kpP_cell hb' k2); (try have k_k3 := kpP_cell hb' k3); (try have k_k4 := kpP_cell hb' k4); (first | (go_simp; done) | (go_simp; with_reducible rfl) | (go_simp; go_bits; with_reducible rfl) | (go_simp; go_bits; done))); try simp only [Act.put, List.setIfInBounds_toArray, List.set_cons_zero, List.set_cons_succ]) | (apply linN_hotSkip; (simp only [List.getElem?_toArray, List.getElem?_cons_succ, List.getElem?_cons_zero]; rfl); (rfl); try simp only [Act.put, List.setIfInBounds_toArray, List.set_cons_zero, List.set_cons_succ])); (first | (apply linN_free; (simp only [List.getElem?_toArray, List.getElem?_cons_succ, List.getElem?_cons_zero]; rfl); (rfl); (intro w'; (first | (go_simp; done) | (go_simp; with_reducible rfl) | (go_simp; go_bits; with_reducible rfl) | (go_simp; go_bits; done))); try simp only [Act.put, List.setIfInBounds_toArray, List.set_cons_zero, List.set_cons_succ]) | (apply linN_freeSkip; (simp only [List.getElem?_toArray, List.getElem?_cons_succ, List.getElem?_cons_zero]; rfl); (rfl); try simp only [Act.put, List.setIfInBounds_toArray, List.set_cons_zero, List.set_cons_succ])); (first | (apply linN_free; (simp only [List.getElem?_toArray, List.getElem?_cons_succ, List.getElem?_cons_zero]; rfl); (rfl); (intro w'; (first | (go_simp; done) | (go_simp; with_reducible rfl) | (go_simp; go_bits; with_reducible rfl) | (go_simp; go_bits; done))); try simp only [Act.put, List.setIfInBounds_toArray, List.set_cons_zero, List.set_cons_succ]) | (apply linN_freeSkip; (simp only [List.getElem?_toArray, List.getElem?_cons_succ, List.getElem?_cons_zero]; rfl); (rfl); try simp only [Act.put, List.setIfInBounds_toArray, List.set_cons_zero, List.set_cons_succ])); (first | (apply linN_free; (simp only [List.getElem?_toArray, List.getElem?_cons_succ, List.getElem?_cons_zero]; rfl); (rfl); (intro w'; (first | (go_simp; done) | (go_simp; with_reducible rfl) | (go_simp; go_bits; with_reducible rfl) | (go_simp; go_bits; done))); try simp only [Act.put, List.setIfInBounds_toArray, List.set_cons_zero, List.set_cons_succ]) | (apply linN_freeSkip; (simp only [List.getElem?_toArray, List.getElem?_cons_succ, List.getElem?_cons_zero]; rfl); (rfl); try simp only [Act.put, List.setIfInBounds_toArray, List.set_cons_zero, List.set_cons_succ])); (first | (apply linN_hot; (simp only [List.getElem?_toArray, List.getElem?_cons_succ, List.getElem?_cons_zero]; rfl); (rfl); (intro w' hb'; (try have k_k0 := kpP_cell hb' k0); (try have k_k1 := kpP_cell hb' k1); (try have k_k2 := kpP_cell hb' k2); (try have k_k3 := kpP_cell hb' k3); (try have k_k4 := kpP_cell hb' k4); (first | (go_simp; done) | (go_simp; with_reducible rfl) | (go_simp; go_bits; with_reducible rfl) | (go_simp; go_bits; done))); try simp only [Act.put, List.setIfInBounds_toArray, List.set_cons_zero, List.set_cons_succ]) | (apply linN_hotSkip; (simp only [List.getElem?_toArray, List.getElem?_cons_succ, List.getElem?_cons_zero]; rfl); (rfl); try simp only [Act.put, List.setIfInBounds_toArray, List.set_cons_zero, List.set_cons_succ])); (first | (apply linN_free; (simp only [List.getElem?_toArray, List.getElem?_cons_succ, List.getElem?_cons_zero]; rfl); (rfl); (intro w'; (first | (go_simp; done) | (go_simp; with_reducible rfl) | (go_simp; go_bits; with_reducible rfl) | (go_simp; go_bits; done))); try simp only [Act.put, List.setIfInBounds_toArray, List.set_cons_zero, List.set_cons_succ]) | (apply linN_freeSkip; (simp only [List.getElem?_toArray, List.getElem?_cons_succ, List.getElem?_cons_zero]; rfl); (rfl); try simp only [Act.put, List.setIfInBounds_toArray, List.set_cons_zero, List.set_cons_succ])); (first | (apply linN_pass (wayKpP) (wayKpP); (simp only [List.getElem?_toArray, List.getElem?_cons_succ, List.getElem?_cons_zero]; rfl); (rfl); try simp only [Act.put, List.setIfInBounds_toArray, List.set_cons_zero, List.set_cons_succ]) | (apply linN_op; (simp only [List.getElem?_toArray, List.getElem?_cons_succ, List.getElem?_cons_zero]; rfl); (rfl); intro K hK; (first | (go_simp; (first | (go_at_call 74; (with_reducible refine HHD.out.mono ?_); rintro e w2 ⟨v2, rfl, ho2, hb2⟩; have hdr2 : KpP _ w2 := hb2; (obtain ⟨A2, d2, rfl, ld2, -, hr2⟩ := ho2.form); (rw [HL12.out] at hr2 ld2 ⊢)) | (go_at_call 73; (with_reducible refine (HCAT.out w2 A2 d2 hb2 hr2).mono ?_); rintro e w3 ⟨v3, rfl, ho3, hb3, hdr2⟩; (obtain ⟨A3, d3, rfl, ld3, -, hr3⟩ := ho3.form); (rw [HLP.out] at hr3 ld3 ⊢)) | (go_at_call 19; (with_reducible refine (HWR.out w3 A3 d3 (below_two hb2 hb3) hr3).mono ?_); rintro e w4 ⟨rfl, hI4, hP4, hp4⟩) | skip))); refine hK _ _ ?_ ?_; (show (KpP) _ _; (first | exact hdr2 | assumption | exact (wayKpP).refl _ | exact (wayKpP).refl _ | exact Below.refl _ _ | exact ⟨rfl, rfl, rfl, Nat.le_refl _, fun _ _ => rfl⟩ | exact but_set _ _ _ _ _ | exact but_drew (but_set _ _ _ _ _) | exact but_upd (by assumption) | exact but_below (by assumption) | exact belowB_alloc (by first | omega | (simp; done) | (simp; omega)) _ | exact belowB_mono (by first | omega | (simp; done) | (simp; omega)) (by assumption) | (first | exact rg_alloc (by simp; omega) (by simp; omega) _ | exact FR.of_below (below_alloc (Below.refl _ _) _) (by first | assumption | (simp; omega)) | exact DR.of_below (below_alloc (Below.refl _ _) _) (by first | assumption | (simp; omega))))); clear hK; try simp only [Act.put, List.setIfInBounds_toArray, List.set_cons_zero, List.set_cons_succ])); (first | (apply linN_pass (wayKpP) (wayKpP); (simp only [List.getElem?_toArray, List.getElem?_cons_succ, List.getElem?_cons_zero]; rfl); (rfl); try simp only [Act.put, List.setIfInBounds_toArray, List.set_cons_zero, List.set_cons_succ]) | (apply linN_op; (simp only [List.getElem?_toArray, List.getElem?_cons_succ, List.getElem?_cons_zero]; rfl); (rfl); intro K hK; (first | (go_simp; (first | (go_at_call 74; (with_reducible refine HHD.out.mono ?_); rintro e w2 ⟨v2, rfl, ho2, hb2⟩; have hdr2 : KpP _ w2 := hb2; (obtain ⟨A2, d2, rfl, ld2, -, hr2⟩ := ho2.form); (rw [HL12.out] at hr2 ld2 ⊢)) | (go_at_call 73; (with_reducible refine (HCAT.out w2 A2 d2 hb2 hr2).mono ?_); rintro e w3 ⟨v3, rfl, ho3, hb3, hdr2⟩; (obtain ⟨A3, d3, rfl, ld3, -, hr3⟩ := ho3.form); (rw [HLP.out] at hr3 ld3 ⊢)) | (go_at_call 19; (with_reducible refine (HWR.out w3 A3 d3 (below_two hb2 hb3) hr3).mono ?_); rintro e w4 ⟨rfl, hI4, hP4, hp4⟩) | skip))); refine hK _ _ ?_ ?_; (show (KpP) _ _; (first | exact hdr2 | assumption | exact (wayKpP).refl _ | exact (wayKpP).refl _ | exact Below.refl _ _ | exact ⟨rfl, rfl, rfl, Nat.le_refl _, fun _ _ => rfl⟩ | exact but_set _ _ _ _ _ | exact but_drew (but_set _ _ _ _ _) | exact but_upd (by assumption) | exact but_below (by assumption) | exact belowB_alloc (by first | omega | (simp; done) | (simp; omega)) _ | exact belowB_mono (by first | omega | (simp; done) | (simp; omega)) (by assumption) | (first | exact rg_alloc (by simp; omega) (by simp; omega) _ | exact FR.of_below (below_alloc (Below.refl _ _) _) (by first | assumption | (simp; omega)) | exact DR.of_below (below_alloc (Below.refl _ _) _) (by first | assumption | (simp; omega))))); clear hK; try simp only [Act.put, List.setIfInBounds_toArray, List.set_cons_zero, List.set_cons_succ])); (first | (apply linN_pass (wayKpP) (wayKpP); (simp only [List.getElem?_toArray, List.getElem?_cons_succ, List.getElem?_cons_zero]; rfl); (rfl); try simp only [Act.put, List.setIfInBounds_toArray, List.set_cons_zero, List.set_cons_succ]) | (apply linN_op; (simp only [List.getElem?_toArray, List.getElem?_cons_succ, List.getElem?_cons_zero]; rfl); (rfl); intro K hK; (first | (go_simp; (first | (go_at_call 74; (with_reducible refine HHD.out.mono ?_); rintro e w2 ⟨v2, rfl, ho2, hb2⟩; have hdr2 : KpP _ w2 := hb2; (obtain ⟨A2, d2, rfl, ld2, -, hr2⟩ := ho2.form); (rw [HL12.out] at hr2 ld2 ⊢)) | (go_at_call 73; (with_reducible refine (HCAT.out w2 A2 d2 hb2 hr2).mono ?_); rintro e w3 ⟨v3, rfl, ho3, hb3, hdr2⟩; (obtain ⟨A3, d3, rfl, ld3, -, hr3⟩ := ho3.form); (rw [HLP.out] at hr3 ld3 ⊢)) | (go_at_call 19; (with_reducible refine (HWR.out w3 A3 d3 (below_two hb2 hb3) hr3).mono ?_); rintro e w4 ⟨rfl, hI4, hP4, hp4⟩) | skip))); refine hK _ _ ?_ ?_; (show (KpP) _ _; (first | exact hdr2 | assumption | exact (wayKpP).refl _ | exact (wayKpP).refl _ | exact Below.refl _ _ | exact ⟨rfl, rfl, rfl, Nat.le_refl _, fun _ _ => rfl⟩ | exact but_set _ _ _ _ _ | exact but_drew (but_set _ _ _ _ _) | exact but_upd (by assumption) | exact but_below (by assumption) | exact belowB_alloc (by first | omega | (simp; done) | (simp; omega)) _ | exact belowB_mono (by first | omega | (simp; done) | (simp; omega)) (by assumption) | (first | exact rg_alloc (by simp; omega) (by simp; omega) _ | exact FR.of_below (below_alloc (Below.refl _ _) _) (by first | assumption | (simp; omega)) | exact DR.of_below (below_alloc (Below.refl _ _) _) (by first | assumption | (simp; omega))))); clear hK; try simp only [Act.put, List.setIfInBounds_toArray, List.set_cons_zero, List.set_cons_succ])); (apply linN_op; (simp only [List.getElem?_toArray, List.getElem?_cons_succ, List.getElem?_cons_zero]; rfl); (rfl); intro K hK; go_simp))
  go_at_call 19
  refine (HWR.out w3 A3 d3 (below_two hb2 hb3) hr3).mono ?_
  rintro e w4 ⟨rfl, hI4, hP4, hp4⟩
  have hB3 : Below W.heap.size W w3 := (below_drew (Below.refl W.heap.size W)).trans (show Below W.heap.size W.drew w3 from below_two hb2 hb3)
  have hR4 : RingAt w4 r g at_ size epoch n := (hd.below (below_two hb2 hb3) hrlt).pr hp4 hrg
  exact ⟨rfl, rfl, hI4, hP4, hR4, (PX.of_below hB3 hle).trans (PX.of_pr hp4 (by simp))⟩
set_option maxHeartbeats 4000000 in
set_option maxRecDepth 100000 in
theorem c_addNo2 (h : RingAt W r g at_ size epoch n) (hP : PenAt W g b key boot seq) (hI : In W base b D nn) (hn : nn ≤ 700000) (hrb : base ≤ r) (hgb : base ≤ g) (hrg : r ≠ g) (hroom : n < size) (hsz : size ≤ 100000) (hat : at_ ≤ 100000) (hg : D.goes = false) (A : Option Addr) (m c : Nat) (rec : List UInt8) (hR : RdB W A m rec) (hm : m ≤ 900000) (hq : seq < 18446744073709551615) (hf : fitsB (12 + m) D.size = true)
    (hg2 : (addWr D key boot seq at_ n epoch rec).goes = true) :
    Calls Try.prog 38 #[.pointer (some ⟨r, 0, none⟩), .slice A m c] W fun e w' => e = gonePanic ∧ In w' base b (addWr D key boot seq at_ n epoch rec).dead (nn + 1) ∧ PenAt w' g b key boot (seq + 1) ∧ RingAt w' r g at_ size epoch n ∧ PX [g, r] base W w' := by
  have hd : RingAt W.drew r g at_ size epoch n := ⟨h.row⟩
  have hPd : PenAt W.drew g b key boot seq := ⟨hP.row, hP.kl, hP.bl⟩
  have hId := hI.below (below_drew (Below.refl W.heap.size W))
  have hRd : RdB W.drew A m rec := hR
  have hlr : rec.length = m := hR.len
  have hglt : g < W.drew.heap.size := hP.lt
  have hrlt : r < W.drew.heap.size := h.lt
  have hle : base ≤ W.drew.heap.size := hI.le
  have k0 : W.drew.cell? ⟨r, 0, none⟩ = some (.pointer (some ⟨g, 0, none⟩)) := hd.row.cell 0 rfl
  have k1 : W.drew.cell? ⟨r, 1, none⟩ = some (.int .i64 (at_ : Int)) := hd.row.cell 1 rfl
  have k2 : W.drew.cell? ⟨r, 2, none⟩ = some (.int .i64 (size : Int)) := hd.row.cell 2 rfl
  have k3 : W.drew.cell? ⟨r, 3, none⟩ = some (.int .u64 (epoch : Int)) := hd.row.cell 3 rfl
  have k4 : W.drew.cell? ⟨r, 4, none⟩ = some (.int .i64 (n : Int)) := hd.row.cell 4 rfl
  have hgd : decide ((n : Int) ≥ (size : Int)) = false := decide_eq_false (by omega)
  have hgn : decide (size ≤ n) = false := decide_eq_false (by omega)
  have hgl : ¬ size ≤ n := by omega
  obtain ⟨q, hqq⟩ : ∃ q, at_ + n = q := ⟨_, rfl⟩
  have hqi : (at_ : Int) + (n : Int) = (q : Int) := by omega
  have hwq : IntKind.i64.wrap (q : Int) = (q : Int) := IntWalk.i64_in _ (by omega)
  have hl12 := rhL_length epoch n
  have HL12 := Lib.hid hl12
  have hlp : (rhL epoch n ++ rec).length = 12 + m := by rw [List.length_append, hl12, hlr]
  have HLP := Lib.hid hlp
  have HHD := Lib.hid (c_rhead epoch n (by omega) W.drew)
  have HCAT := Lib.hid (fun w2 A2 d2 (hb2 : Below W.drew.heap.size W.drew w2) (hr2 : RdB w2 A2 12 (rhL epoch n)) => c_cat2 w2 A2 A 12 m d2 c (rhL epoch n) rec hr2 (hRd.below hb2 (Nat.le_refl _)) (by decide) (by decide) (by omega))
  have HWR := Lib.hid (fun w3 A3 d3 (hb3 : Below W.drew.heap.size W.drew w3) (hr3 : RdB w3 A3 (12 + m) (rhL epoch n ++ rec)) => p_write (hPd.below hb3 hglt) (hId.below hb3) (by omega) hgb hg (q : Int) (wf_i64 (by omega) (by omega)) A3 (12 + m) d3 (rhL epoch n ++ rec) hr3 (Nat.zero_le _) hq true hf)
  simp only [if_true] at HWR
  obtain ⟨y, hy⟩ : ∃ y : Nat, n + 1 = y := ⟨_, rfl⟩
  have hyi : (n : Int) + 1 = (y : Int) := by omega
  have hwy : IntKind.i64.wrap (y : Int) = (y : Int) := IntWalk.i64_in _ (by omega)
  have HADW := Lib.hid (show addWr D key boot seq at_ n epoch rec = D.write (q : Int) (sealL key boot seq (rhL epoch n ++ rec) D.size.toNat) by unfold addWr; rw [hqq])
  rw [HADW.out] at hg2 ⊢
  have HG2 := Lib.hid hg2
  generalize D.write (q : Int) (sealL key boot seq (rhL epoch n ++ rec) D.size.toNat) = D1 at *
  generalize rhL epoch n ++ rec = rr at *
  generalize rhL epoch n = hh at *
  clear hRd hlr hl12 hlp hf hg hg2 hR hm hq hroom hqq hI hP h hy HADW
  go_enter Try.func38, Try.ntmps38
  go_upto_region 1 with fail
  (refine wp_region_linN (KpP) (KpP) (wayKpP) (wayKpP) (fun _ _ h => h) (.free 0 (.free 1 (.free 2 (.hot 3 (.free 4 (.free 5 (.free 6 (.hot 7 (.free 8 (.free 9 (.free 10 (.free 11 (.free 12 (.hot 13 (.free 14 (.free 15 (.free 16 (.hot 17 (.free 18 (.free 19 (.free 20 (.hot 21 (.free 22 (.free 23 (.free 24 (.free 25 (.hot 26 (.free 27 (.free 28 (.free 29 (.hot 30 (.free 32 (.op 31 [(9, 31), (8, 9), (3, 8), (7, 8), (26, 31), (30, 31)] [13, 17, 21] [] (.op 33 [] [13, 17, 21] [] (.op 34 [] [13, 17, 21] [] (.op 35 [(13, 35), (22, 35), (17, 22), (21, 22)] [] [] (.free 36 (.free 37 .nil)))))))))))))))))))))))))))))))))))))) rfl (by kernel_rfl) (by kernel_rfl) (fun _ _ _ _ _ h => h) ?_; (first | (apply linN_free; (simp only [List.getElem?_toArray, List.getElem?_cons_succ, List.getElem?_cons_zero]; rfl); (rfl); (intro w'; (first | (go_simp; done) | (go_simp; with_reducible rfl) | (go_simp; go_bits; with_reducible rfl) | (go_simp; go_bits; done))); try simp only [Act.put, List.setIfInBounds_toArray, List.set_cons_zero, List.set_cons_succ]) | (apply linN_freeSkip; (simp only [List.getElem?_toArray, List.getElem?_cons_succ, List.getElem?_cons_zero]; rfl); (rfl); try simp only [Act.put, List.setIfInBounds_toArray, List.set_cons_zero, List.set_cons_succ])); (first | (apply linN_free; (simp only [List.getElem?_toArray, List.getElem?_cons_succ, List.getElem?_cons_zero]; rfl); (rfl); (intro w'; (first | (go_simp; done) | (go_simp; with_reducible rfl) | (go_simp; go_bits; with_reducible rfl) | (go_simp; go_bits; done))); try simp only [Act.put, List.setIfInBounds_toArray, List.set_cons_zero, List.set_cons_succ]) | (apply linN_freeSkip; (simp only [List.getElem?_toArray, List.getElem?_cons_succ, List.getElem?_cons_zero]; rfl); (rfl); try simp only [Act.put, List.setIfInBounds_toArray, List.set_cons_zero, List.set_cons_succ])); (first | (apply linN_free; (simp only [List.getElem?_toArray, List.getElem?_cons_succ, List.getElem?_cons_zero]; rfl); (rfl); (intro w'; (first | (go_simp; done) | (go_simp; with_reducible rfl) | (go_simp; go_bits; with_reducible rfl) | (go_simp; go_bits; done))); try simp only [Act.put, List.setIfInBounds_toArray, List.set_cons_zero, List.set_cons_succ]) | (apply linN_freeSkip; (simp only [List.getElem?_toArray, List.getElem?_cons_succ, List.getElem?_cons_zero]; rfl); (rfl); try simp only [Act.put, List.setIfInBounds_toArray, List.set_cons_zero, List.set_cons_succ])); (first | (apply linN_hot; (simp only [List.getElem?_toArray, List.getElem?_cons_succ, List.getElem?_cons_zero]; rfl); (rfl); (intro w' hb'; (try have k_k0 := kpP_cell hb' k0); (try have k_k1 := kpP_cell hb' k1); (try have k_k2 := kpP_cell hb' k2); (try have k_k3 := kpP_cell hb' k3); (try have k_k4 := kpP_cell hb' k4); (first | (go_simp; done) | (go_simp; with_reducible rfl) | (go_simp; go_bits; with_reducible rfl) | (go_simp; go_bits; done))); try simp only [Act.put, List.setIfInBounds_toArray, List.set_cons_zero, List.set_cons_succ]) | (apply linN_hotSkip; (simp only [List.getElem?_toArray, List.getElem?_cons_succ, List.getElem?_cons_zero]; rfl); (rfl); try simp only [Act.put, List.setIfInBounds_toArray, List.set_cons_zero, List.set_cons_succ])); (first | (apply linN_free; (simp only [List.getElem?_toArray, List.getElem?_cons_succ, List.getElem?_cons_zero]; rfl); (rfl); (intro w'; (first | (go_simp; done) | (go_simp; with_reducible rfl) | (go_simp; go_bits; with_reducible rfl) | (go_simp; go_bits; done))); try simp only [Act.put, List.setIfInBounds_toArray, List.set_cons_zero, List.set_cons_succ]) | (apply linN_freeSkip; (simp only [List.getElem?_toArray, List.getElem?_cons_succ, List.getElem?_cons_zero]; rfl); (rfl); try simp only [Act.put, List.setIfInBounds_toArray, List.set_cons_zero, List.set_cons_succ])); (first | (apply linN_free; (simp only [List.getElem?_toArray, List.getElem?_cons_succ, List.getElem?_cons_zero]; rfl); (rfl); (intro w'; (first | (go_simp; done) | (go_simp; with_reducible rfl) | (go_simp; go_bits; with_reducible rfl) | (go_simp; go_bits; done))); try simp only [Act.put, List.setIfInBounds_toArray, List.set_cons_zero, List.set_cons_succ]) | (apply linN_freeSkip; (simp only [List.getElem?_toArray, List.getElem?_cons_succ, List.getElem?_cons_zero]; rfl); (rfl); try simp only [Act.put, List.setIfInBounds_toArray, List.set_cons_zero, List.set_cons_succ])); (first | (apply linN_free; (simp only [List.getElem?_toArray, List.getElem?_cons_succ, List.getElem?_cons_zero]; rfl); (rfl); (intro w'; (first | (go_simp; done) | (go_simp; with_reducible rfl) | (go_simp; go_bits; with_reducible rfl) | (go_simp; go_bits; done))); try simp only [Act.put, List.setIfInBounds_toArray, List.set_cons_zero, List.set_cons_succ]) | (apply linN_freeSkip; (simp only [List.getElem?_toArray, List.getElem?_cons_succ, List.getElem?_cons_zero]; rfl); (rfl); try simp only [Act.put, List.setIfInBounds_toArray, List.set_cons_zero, List.set_cons_succ])); (first | (apply linN_hot; (simp only [List.getElem?_toArray, List.getElem?_cons_succ, List.getElem?_cons_zero]; rfl); (rfl); (intro w' hb'; (try have k_k0 := kpP_cell hb' k0); (try have k_k1 := kpP_cell hb' k1); (try have k_k2 := kpP_cell hb' k2); (try have k_k3 := kpP_cell hb' k3); (try have k_k4 := kpP_cell hb' k4); (first | (go_simp; done) | (go_simp; with_reducible rfl) | (go_simp; go_bits; with_reducible rfl) | (go_simp; go_bits; done))); try simp only [Act.put, List.setIfInBounds_toArray, List.set_cons_zero, List.set_cons_succ]) | (apply linN_hotSkip; (simp only [List.getElem?_toArray, List.getElem?_cons_succ, List.getElem?_cons_zero]; rfl); (rfl); try simp only [Act.put, List.setIfInBounds_toArray, List.set_cons_zero, List.set_cons_succ])); (first | (apply linN_free; (simp only [List.getElem?_toArray, List.getElem?_cons_succ, List.getElem?_cons_zero]; rfl); (rfl); (intro w'; (first | (go_simp; done) | (go_simp; with_reducible rfl) | (go_simp; go_bits; with_reducible rfl) | (go_simp; go_bits; done))); try simp only [Act.put, List.setIfInBounds_toArray, List.set_cons_zero, List.set_cons_succ]) | (apply linN_freeSkip; (simp only [List.getElem?_toArray, List.getElem?_cons_succ, List.getElem?_cons_zero]; rfl); (rfl); try simp only [Act.put, List.setIfInBounds_toArray, List.set_cons_zero, List.set_cons_succ])); (first | (apply linN_free; (simp only [List.getElem?_toArray, List.getElem?_cons_succ, List.getElem?_cons_zero]; rfl); (rfl); (intro w'; (first | (go_simp; done) | (go_simp; with_reducible rfl) | (go_simp; go_bits; with_reducible rfl) | (go_simp; go_bits; done))); try simp only [Act.put, List.setIfInBounds_toArray, List.set_cons_zero, List.set_cons_succ]) | (apply linN_freeSkip; (simp only [List.getElem?_toArray, List.getElem?_cons_succ, List.getElem?_cons_zero]; rfl); (rfl); try simp only [Act.put, List.setIfInBounds_toArray, List.set_cons_zero, List.set_cons_succ])); (first | (apply linN_free; (simp only [List.getElem?_toArray, List.getElem?_cons_succ, List.getElem?_cons_zero]; rfl); (rfl); (intro w'; (first | (go_simp; done) | (go_simp; with_reducible rfl) | (go_simp; go_bits; with_reducible rfl) | (go_simp; go_bits; done))); try simp only [Act.put, List.setIfInBounds_toArray, List.set_cons_zero, List.set_cons_succ]) | (apply linN_freeSkip; (simp only [List.getElem?_toArray, List.getElem?_cons_succ, List.getElem?_cons_zero]; rfl); (rfl); try simp only [Act.put, List.setIfInBounds_toArray, List.set_cons_zero, List.set_cons_succ])); (first | (apply linN_free; (simp only [List.getElem?_toArray, List.getElem?_cons_succ, List.getElem?_cons_zero]; rfl); (rfl); (intro w'; (first | (go_simp; done) | (go_simp; with_reducible rfl) | (go_simp; go_bits; with_reducible rfl) | (go_simp; go_bits; done))); try simp only [Act.put, List.setIfInBounds_toArray, List.set_cons_zero, List.set_cons_succ]) | (apply linN_freeSkip; (simp only [List.getElem?_toArray, List.getElem?_cons_succ, List.getElem?_cons_zero]; rfl); (rfl); try simp only [Act.put, List.setIfInBounds_toArray, List.set_cons_zero, List.set_cons_succ])); (first | (apply linN_free; (simp only [List.getElem?_toArray, List.getElem?_cons_succ, List.getElem?_cons_zero]; rfl); (rfl); (intro w'; (first | (go_simp; done) | (go_simp; with_reducible rfl) | (go_simp; go_bits; with_reducible rfl) | (go_simp; go_bits; done))); try simp only [Act.put, List.setIfInBounds_toArray, List.set_cons_zero, List.set_cons_succ]) | (apply linN_freeSkip; (simp only [List.getElem?_toArray, List.getElem?_cons_succ, List.getElem?_cons_zero]; rfl); (rfl); try simp only [Act.put, List.setIfInBounds_toArray, List.set_cons_zero, List.set_cons_succ])); (first | (apply linN_hot; (simp only [List.getElem?_toArray, List.getElem?_cons_succ, List.getElem?_cons_zero]; rfl); (rfl); (intro w' hb'; (try have k_k0 := kpP_cell hb' k0); (try have k_k1 := kpP_cell hb' k1); (try have k_k2 := kpP_cell hb' k2); (try have k_k3 := kpP_cell hb' k3); (try have k_k4 := kpP_cell hb' k4); (first | (go_simp; done) | (go_simp; with_reducible rfl) | (go_simp; go_bits; with_reducible rfl) | (go_simp; go_bits; done))); try simp only [Act.put, List.setIfInBounds_toArray, List.set_cons_zero, List.set_cons_succ]) | (apply linN_hotSkip; (simp only [List.getElem?_toArray, List.getElem?_cons_succ, List.getElem?_cons_zero]; rfl); (rfl); try simp only [Act.put, List.setIfInBounds_toArray, List.set_cons_zero, List.set_cons_succ])); (first | (apply linN_free; (simp only [List.getElem?_toArray, List.getElem?_cons_succ, List.getElem?_cons_zero]; rfl); (rfl); (intro w'; (first | (go_simp; done) | (go_simp; with_reducible rfl) | (go_simp; go_bits; with_reducible rfl) | (go_simp; go_bits; done))); try simp only [Act.put, List.setIfInBounds_toArray, List.set_cons_zero, List.set_cons_succ]) | (apply linN_freeSkip; (simp only [List.getElem?_toArray, List.getElem?_cons_succ, List.getElem?_cons_zero]; rfl); (rfl); try simp only [Act.put, List.setIfInBounds_toArray, List.set_cons_zero, List.set_cons_succ])); (first | (apply linN_free; (simp only [List.getElem?_toArray, List.getElem?_cons_succ, List.getElem?_cons_zero]; rfl); (rfl); (intro w'; (first | (go_simp; done) | (go_simp; with_reducible rfl) | (go_simp; go_bits; with_reducible rfl) | (go_simp; go_bits; done))); try simp only [Act.put, List.setIfInBounds_toArray, List.set_cons_zero, List.set_cons_succ]) | (apply linN_freeSkip; (simp only [List.getElem?_toArray, List.getElem?_cons_succ, List.getElem?_cons_zero]; rfl); (rfl); try simp only [Act.put, List.setIfInBounds_toArray, List.set_cons_zero, List.set_cons_succ])); (first | (apply linN_free; (simp only [List.getElem?_toArray, List.getElem?_cons_succ, List.getElem?_cons_zero]; rfl); (rfl); (intro w'; (first | (go_simp; done) | (go_simp; with_reducible rfl) | (go_simp; go_bits; with_reducible rfl) | (go_simp; go_bits; done))); try simp only [Act.put, List.setIfInBounds_toArray, List.set_cons_zero, List.set_cons_succ]) | (apply linN_freeSkip; (simp only [List.getElem?_toArray, List.getElem?_cons_succ, List.getElem?_cons_zero]; rfl); (rfl); try simp only [Act.put, List.setIfInBounds_toArray, List.set_cons_zero, List.set_cons_succ])); (first | (apply linN_hot; (simp only [List.getElem?_toArray, List.getElem?_cons_succ, List.getElem?_cons_zero]; rfl); (rfl); (intro w' hb'; (try have k_k0 := kpP_cell hb' k0); (try have k_k1 := kpP_cell hb' k1); (try have k_k2 := kpP_cell hb' k2); (try have k_k3 := kpP_cell hb' k3); (try have k_k4 := kpP_cell hb' k4); (first | (go_simp; done) | (go_simp; with_reducible rfl) | (go_simp; go_bits; with_reducible rfl) | (go_simp; go_bits; done))); try simp only [Act.put, List.setIfInBounds_toArray, List.set_cons_zero, List.set_cons_succ]) | (apply linN_hotSkip; (simp only [List.getElem?_toArray, List.getElem?_cons_succ, List.getElem?_cons_zero]; rfl); (rfl); try simp only [Act.put, List.setIfInBounds_toArray, List.set_cons_zero, List.set_cons_succ])); (first | (apply linN_free; (simp only [List.getElem?_toArray, List.getElem?_cons_succ, List.getElem?_cons_zero]; rfl); (rfl); (intro w'; (first | (go_simp; done) | (go_simp; with_reducible rfl) | (go_simp; go_bits; with_reducible rfl) | (go_simp; go_bits; done))); try simp only [Act.put, List.setIfInBounds_toArray, List.set_cons_zero, List.set_cons_succ]) | (apply linN_freeSkip; (simp only [List.getElem?_toArray, List.getElem?_cons_succ, List.getElem?_cons_zero]; rfl); (rfl); try simp only [Act.put, List.setIfInBounds_toArray, List.set_cons_zero, List.set_cons_succ])); (first | (apply linN_free; (simp only [List.getElem?_toArray, List.getElem?_cons_succ, List.getElem?_cons_zero]; rfl); (rfl); (intro w'; (first | (go_simp; done) | (go_simp; with_reducible rfl) | (go_simp; go_bits; with_reducible rfl) | (go_simp; go_bits; done))); try simp only [Act.put, List.setIfInBounds_toArray, List.set_cons_zero, List.set_cons_succ]) | (apply linN_freeSkip; (simp only [List.getElem?_toArray, List.getElem?_cons_succ, List.getElem?_cons_zero]; rfl); (rfl); try simp only [Act.put, List.setIfInBounds_toArray, List.set_cons_zero, List.set_cons_succ])); (first | (apply linN_free; (simp only [List.getElem?_toArray, List.getElem?_cons_succ, List.getElem?_cons_zero]; rfl); (rfl); (intro w'; (first | (go_simp; done) | (go_simp; with_reducible rfl) | (go_simp; go_bits; with_reducible rfl) | (go_simp; go_bits; done))); try simp only [Act.put, List.setIfInBounds_toArray, List.set_cons_zero, List.set_cons_succ]) | (apply linN_freeSkip; (simp only [List.getElem?_toArray, List.getElem?_cons_succ, List.getElem?_cons_zero]; rfl); (rfl); try simp only [Act.put, List.setIfInBounds_toArray, List.set_cons_zero, List.set_cons_succ])); (first | (apply linN_hot; (simp only [List.getElem?_toArray, List.getElem?_cons_succ, List.getElem?_cons_zero]; rfl); (rfl); (intro w' hb'; (try have k_k0 := kpP_cell hb' k0); (try have k_k1 := kpP_cell hb' k1); (try have k_k2 := kpP_cell hb' k2); (try have k_k3 := kpP_cell hb' k3); (try have k_k4 := kpP_cell hb' k4); (first | (go_simp; done) | (go_simp; with_reducible rfl) | (go_simp; go_bits; with_reducible rfl) | (go_simp; go_bits; done))); try simp only [Act.put, List.setIfInBounds_toArray, List.set_cons_zero, List.set_cons_succ]) | (apply linN_hotSkip; (simp only [List.getElem?_toArray, List.getElem?_cons_succ, List.getElem?_cons_zero]; rfl); (rfl); try simp only [Act.put, List.setIfInBounds_toArray, List.set_cons_zero, List.set_cons_succ])); (first | (apply linN_free; (simp only [List.getElem?_toArray, List.getElem?_cons_succ, List.getElem?_cons_zero]; rfl); (rfl); (intro w'; (first | (go_simp; done) | (go_simp; with_reducible rfl) | (go_simp; go_bits; with_reducible rfl) | (go_simp; go_bits; done))); try simp only [Act.put, List.setIfInBounds_toArray, List.set_cons_zero, List.set_cons_succ]) | (apply linN_freeSkip; (simp only [List.getElem?_toArray, List.getElem?_cons_succ, List.getElem?_cons_zero]; rfl); (rfl); try simp only [Act.put, List.setIfInBounds_toArray, List.set_cons_zero, List.set_cons_succ])); (first | (apply linN_free; (simp only [List.getElem?_toArray, List.getElem?_cons_succ, List.getElem?_cons_zero]; rfl); (rfl); (intro w'; (first | (go_simp; done) | (go_simp; with_reducible rfl) | (go_simp; go_bits; with_reducible rfl) | (go_simp; go_bits; done))); try simp only [Act.put, List.setIfInBounds_toArray, List.set_cons_zero, List.set_cons_succ]) | (apply linN_freeSkip; (simp only [List.getElem?_toArray, List.getElem?_cons_succ, List.getElem?_cons_zero]; rfl); (rfl); try simp only [Act.put, List.setIfInBounds_toArray, List.set_cons_zero, List.set_cons_succ])); (first | (apply linN_free; (simp only [List.getElem?_toArray, List.getElem?_cons_succ, List.getElem?_cons_zero]; rfl); (rfl); (intro w'; (first | (go_simp; done) | (go_simp; with_reducible rfl) | (go_simp; go_bits; with_reducible rfl) | (go_simp; go_bits; done))); try simp only [Act.put, List.setIfInBounds_toArray, List.set_cons_zero, List.set_cons_succ]) | (apply linN_freeSkip; (simp only [List.getElem?_toArray, List.getElem?_cons_succ, List.getElem?_cons_zero]; rfl); (rfl); try simp only [Act.put, List.setIfInBounds_toArray, List.set_cons_zero, List.set_cons_succ])); (first | (apply linN_free; (simp only [List.getElem?_toArray, List.getElem?_cons_succ, List.getElem?_cons_zero]; rfl); (rfl); (intro w'; (first | (go_simp; done) | (go_simp; with_reducible rfl) | (go_simp; go_bits; with_reducible rfl) | (go_simp; go_bits; done))); try simp only [Act.put, List.setIfInBounds_toArray, List.set_cons_zero, List.set_cons_succ]) | (apply linN_freeSkip; (simp only [List.getElem?_toArray, List.getElem?_cons_succ, List.getElem?_cons_zero]; rfl); (rfl); try simp only [Act.put, List.setIfInBounds_toArray, List.set_cons_zero, List.set_cons_succ])); (first | (apply linN_hot; (simp only [List.getElem?_toArray, List.getElem?_cons_succ, List.getElem?_cons_zero]; rfl); (rfl); (intro w' hb'; (try have k_k0 := kpP_cell hb' k0); (try have k_k1 := kpP_cell hb' k1); (try have k_k2 := kpP_cell hb' k2); (try have k_k3 := kpP_cell hb' k3); (try have k_k4 := kpP_cell hb' k4); (first | (go_simp; done) | (go_simp; with_reducible rfl) | (go_simp; go_bits; with_reducible rfl) | (go_simp; go_bits; done))); try simp only [Act.put, List.setIfInBounds_toArray, List.set_cons_zero, List.set_cons_succ]) | (apply linN_hotSkip; (simp only [List.getElem?_toArray, List.getElem?_cons_succ, List.getElem?_cons_zero]; rfl); (rfl); try simp only [Act.put, List.setIfInBounds_toArray, List.set_cons_zero, List.set_cons_succ])); (first | (apply linN_free; (simp only [List.getElem?_toArray, List.getElem?_cons_succ, List.getElem?_cons_zero]; rfl); (rfl); (intro w'; (first | (go_simp; done) | (go_simp; with_reducible rfl) | (go_simp; go_bits; with_reducible rfl) | (go_simp; go_bits; done))); try simp only [Act.put, List.setIfInBounds_toArray, List.set_cons_zero, List.set_cons_succ]) | (apply linN_freeSkip; (simp only [List.getElem?_toArray, List.getElem?_cons_succ, List.getElem?_cons_zero]; rfl); (rfl); try simp only [Act.put, List.setIfInBounds_toArray, List.set_cons_zero, List.set_cons_succ])); (first | (apply linN_free; (simp only [List.getElem?_toArray, List.getElem?_cons_succ, List.getElem?_cons_zero]; rfl); (rfl); (intro w'; (first | (go_simp; done) | (go_simp; with_reducible rfl) | (go_simp; go_bits; with_reducible rfl) | (go_simp; go_bits; done))); try simp only [Act.put, List.setIfInBounds_toArray, List.set_cons_zero, List.set_cons_succ]) | (apply linN_freeSkip; (simp only [List.getElem?_toArray, List.getElem?_cons_succ, List.getElem?_cons_zero]; rfl); (rfl); try simp only [Act.put, List.setIfInBounds_toArray, List.set_cons_zero, List.set_cons_succ])); (first | (apply linN_free; (simp only [List.getElem?_toArray, List.getElem?_cons_succ, List.getElem?_cons_zero]; rfl); (rfl); (intro w'; (first | (go_simp; done) | (go_simp; with_reducible rfl) | (go_simp; go_bits; with_reducible rfl) | (go_simp; go_bits; done))); try simp only [Act.put, List.setIfInBounds_toArray, List.set_cons_zero, List.set_cons_succ]) | (apply linN_freeSkip; (simp only [List.getElem?_toArray, List.getElem?_cons_succ, List.getElem?_cons_zero]; rfl); (rfl); try simp only [Act.put, List.setIfInBounds_toArray, List.set_cons_zero, List.set_cons_succ])); (first | (apply linN_hot; (simp only [List.getElem?_toArray, List.getElem?_cons_succ, List.getElem?_cons_zero]; rfl); (rfl); (intro w' hb'; (try have k_k0 := kpP_cell hb' k0); (try have k_k1 := kpP_cell hb' k1); (try have k_k2 := kpP_cell hb' k2); (try have k_k3 := kpP_cell hb' k3); (try have k_k4 := kpP_cell hb' k4); (first | (go_simp; done) | (go_simp; with_reducible rfl) | (go_simp; go_bits; with_reducible rfl) | (go_simp; go_bits; done))); try simp only [Act.put, List.setIfInBounds_toArray, List.set_cons_zero, List.set_cons_succ]) | (apply linN_hotSkip; (simp only [List.getElem?_toArray, List.getElem?_cons_succ, List.getElem?_cons_zero]; rfl); (rfl); try simp only [Act.put, List.setIfInBounds_toArray, List.set_cons_zero, List.set_cons_succ])); (first | (apply linN_free; (simp only [List.getElem?_toArray, List.getElem?_cons_succ, List.getElem?_cons_zero]; rfl); (rfl); (intro w'; (first | (go_simp; done) | (go_simp; with_reducible rfl) | (go_simp; go_bits; with_reducible rfl) | (go_simp; go_bits; done))); try simp only [Act.put, List.setIfInBounds_toArray, List.set_cons_zero, List.set_cons_succ]) | (apply linN_freeSkip; (simp only [List.getElem?_toArray, List.getElem?_cons_succ, List.getElem?_cons_zero]; rfl); (rfl); try simp only [Act.put, List.setIfInBounds_toArray, List.set_cons_zero, List.set_cons_succ])); (first | (apply linN_pass (wayKpP) (wayKpP); (simp only [List.getElem?_toArray, List.getElem?_cons_succ, List.getElem?_cons_zero]; rfl); (rfl); try simp only [Act.put, List.setIfInBounds_toArray, List.set_cons_zero, List.set_cons_succ]) | (apply linN_op; (simp only [List.getElem?_toArray, List.getElem?_cons_succ, List.getElem?_cons_zero]; rfl); (rfl); intro K hK; (first | (go_simp; (first | (go_at_call 74; (with_reducible refine HHD.out.mono ?_); rintro e w2 ⟨v2, rfl, ho2, hb2⟩; have hdr2 : KpP _ w2 := hb2; (obtain ⟨A2, d2, rfl, ld2, -, hr2⟩ := ho2.form); (rw [HL12.out] at hr2 ld2 ⊢)) | (go_at_call 73; (with_reducible refine (HCAT.out w2 A2 d2 hb2 hr2).mono ?_); rintro e w3 ⟨v3, rfl, ho3, hb3, hdr2⟩; (obtain ⟨A3, d3, rfl, ld3, -, hr3⟩ := ho3.form); (rw [HLP.out] at hr3 ld3 ⊢)) | (go_at_call 19; (with_reducible refine (HWR.out w3 A3 d3 (below_two hb2 hb3) hr3).mono ?_); rintro e w4 ⟨rfl, hI4, hP4, hp4⟩) | skip))); refine hK _ _ ?_ ?_; (show (KpP) _ _; (first | exact hdr2 | assumption | exact (wayKpP).refl _ | exact (wayKpP).refl _ | exact Below.refl _ _ | exact ⟨rfl, rfl, rfl, Nat.le_refl _, fun _ _ => rfl⟩ | exact but_set _ _ _ _ _ | exact but_drew (but_set _ _ _ _ _) | exact but_upd (by assumption) | exact but_below (by assumption) | exact belowB_alloc (by first | omega | (simp; done) | (simp; omega)) _ | exact belowB_mono (by first | omega | (simp; done) | (simp; omega)) (by assumption) | (first | exact rg_alloc (by simp; omega) (by simp; omega) _ | exact FR.of_below (below_alloc (Below.refl _ _) _) (by first | assumption | (simp; omega)) | exact DR.of_below (below_alloc (Below.refl _ _) _) (by first | assumption | (simp; omega))))); clear hK; try simp only [Act.put, List.setIfInBounds_toArray, List.set_cons_zero, List.set_cons_succ])); (first | (apply linN_pass (wayKpP) (wayKpP); (simp only [List.getElem?_toArray, List.getElem?_cons_succ, List.getElem?_cons_zero]; rfl); (rfl); try simp only [Act.put, List.setIfInBounds_toArray, List.set_cons_zero, List.set_cons_succ]) | (apply linN_op; (simp only [List.getElem?_toArray, List.getElem?_cons_succ, List.getElem?_cons_zero]; rfl); (rfl); intro K hK; (first | (go_simp; (first | (go_at_call 74; (with_reducible refine HHD.out.mono ?_); rintro e w2 ⟨v2, rfl, ho2, hb2⟩; have hdr2 : KpP _ w2 := hb2; (obtain ⟨A2, d2, rfl, ld2, -, hr2⟩ := ho2.form); (rw [HL12.out] at hr2 ld2 ⊢)) | (go_at_call 73; (with_reducible refine (HCAT.out w2 A2 d2 hb2 hr2).mono ?_); rintro e w3 ⟨v3, rfl, ho3, hb3, hdr2⟩; (obtain ⟨A3, d3, rfl, ld3, -, hr3⟩ := ho3.form); (rw [HLP.out] at hr3 ld3 ⊢)) | (go_at_call 19; (with_reducible refine (HWR.out w3 A3 d3 (below_two hb2 hb3) hr3).mono ?_); rintro e w4 ⟨rfl, hI4, hP4, hp4⟩) | skip))); refine hK _ _ ?_ ?_; (show (KpP) _ _; (first | exact hdr2 | assumption | exact (wayKpP).refl _ | exact (wayKpP).refl _ | exact Below.refl _ _ | exact ⟨rfl, rfl, rfl, Nat.le_refl _, fun _ _ => rfl⟩ | exact but_set _ _ _ _ _ | exact but_drew (but_set _ _ _ _ _) | exact but_upd (by assumption) | exact but_below (by assumption) | exact belowB_alloc (by first | omega | (simp; done) | (simp; omega)) _ | exact belowB_mono (by first | omega | (simp; done) | (simp; omega)) (by assumption) | (first | exact rg_alloc (by simp; omega) (by simp; omega) _ | exact FR.of_below (below_alloc (Below.refl _ _) _) (by first | assumption | (simp; omega)) | exact DR.of_below (below_alloc (Below.refl _ _) _) (by first | assumption | (simp; omega))))); clear hK; try simp only [Act.put, List.setIfInBounds_toArray, List.set_cons_zero, List.set_cons_succ])); (first | (apply linN_pass (wayKpP) (wayKpP); (simp only [List.getElem?_toArray, List.getElem?_cons_succ, List.getElem?_cons_zero]; rfl); (rfl); try simp only [Act.put, List.setIfInBounds_toArray, List.set_cons_zero, List.set_cons_succ]) | (apply linN_op; (simp only [List.getElem?_toArray, List.getElem?_cons_succ, List.getElem?_cons_zero]; rfl); (rfl); intro K hK; (first | (go_simp; (first | (go_at_call 74; (with_reducible refine HHD.out.mono ?_); rintro e w2 ⟨v2, rfl, ho2, hb2⟩; have hdr2 : KpP _ w2 := hb2; (obtain ⟨A2, d2, rfl, ld2, -, hr2⟩ := ho2.form); (rw [HL12.out] at hr2 ld2 ⊢)) | (go_at_call 73; (with_reducible refine (HCAT.out w2 A2 d2 hb2 hr2).mono ?_); rintro e w3 ⟨v3, rfl, ho3, hb3, hdr2⟩; (obtain ⟨A3, d3, rfl, ld3, -, hr3⟩ := ho3.form); (rw [HLP.out] at hr3 ld3 ⊢)) | (go_at_call 19; (with_reducible refine (HWR.out w3 A3 d3 (below_two hb2 hb3) hr3).mono ?_); rintro e w4 ⟨rfl, hI4, hP4, hp4⟩) | skip))); refine hK _ _ ?_ ?_; (show (KpP) _ _; (first | exact hdr2 | assumption | exact (wayKpP).refl _ | exact (wayKpP).refl _ | exact Below.refl _ _ | exact ⟨rfl, rfl, rfl, Nat.le_refl _, fun _ _ => rfl⟩ | exact but_set _ _ _ _ _ | exact but_drew (but_set _ _ _ _ _) | exact but_upd (by assumption) | exact but_below (by assumption) | exact belowB_alloc (by first | omega | (simp; done) | (simp; omega)) _ | exact belowB_mono (by first | omega | (simp; done) | (simp; omega)) (by assumption) | (first | exact rg_alloc (by simp; omega) (by simp; omega) _ | exact FR.of_below (below_alloc (Below.refl _ _) _) (by first | assumption | (simp; omega)) | exact DR.of_below (below_alloc (Below.refl _ _) _) (by first | assumption | (simp; omega))))); clear hK; try simp only [Act.put, List.setIfInBounds_toArray, List.set_cons_zero, List.set_cons_succ])); (first | (apply linN_pass (wayKpP) (wayKpP); (simp only [List.getElem?_toArray, List.getElem?_cons_succ, List.getElem?_cons_zero]; rfl); (rfl); try simp only [Act.put, List.setIfInBounds_toArray, List.set_cons_zero, List.set_cons_succ]) | (apply linN_op; (simp only [List.getElem?_toArray, List.getElem?_cons_succ, List.getElem?_cons_zero]; rfl); (rfl); intro K hK; (first | (go_simp; (first | (go_at_call 74; (with_reducible refine HHD.out.mono ?_); rintro e w2 ⟨v2, rfl, ho2, hb2⟩; have hdr2 : KpP _ w2 := hb2; (obtain ⟨A2, d2, rfl, ld2, -, hr2⟩ := ho2.form); (rw [HL12.out] at hr2 ld2 ⊢)) | (go_at_call 73; (with_reducible refine (HCAT.out w2 A2 d2 hb2 hr2).mono ?_); rintro e w3 ⟨v3, rfl, ho3, hb3, hdr2⟩; (obtain ⟨A3, d3, rfl, ld3, -, hr3⟩ := ho3.form); (rw [HLP.out] at hr3 ld3 ⊢)) | (go_at_call 19; (with_reducible refine (HWR.out w3 A3 d3 (below_two hb2 hb3) hr3).mono ?_); rintro e w4 ⟨rfl, hI4, hP4, hp4⟩) | skip))); refine hK _ _ ?_ ?_; (exact trivial); clear hK; try simp only [Act.put, List.setIfInBounds_toArray, List.set_cons_zero, List.set_cons_succ])); (first | (apply linN_free; (simp only [List.getElem?_toArray, List.getElem?_cons_succ, List.getElem?_cons_zero]; rfl); (rfl); (intro w'; (first | (go_simp; done) | (go_simp; with_reducible rfl) | (go_simp; go_bits; with_reducible rfl) | (go_simp; go_bits; done))); try simp only [Act.put, List.setIfInBounds_toArray, List.set_cons_zero, List.set_cons_succ]) | (apply linN_freeSkip; (simp only [List.getElem?_toArray, List.getElem?_cons_succ, List.getElem?_cons_zero]; rfl); (rfl); try simp only [Act.put, List.setIfInBounds_toArray, List.set_cons_zero, List.set_cons_succ])); (first | (apply linN_free; (simp only [List.getElem?_toArray, List.getElem?_cons_succ, List.getElem?_cons_zero]; rfl); (rfl); (intro w'; (first | (go_simp; done) | (go_simp; with_reducible rfl) | (go_simp; go_bits; with_reducible rfl) | (go_simp; go_bits; done))); try simp only [Act.put, List.setIfInBounds_toArray, List.set_cons_zero, List.set_cons_succ]) | (apply linN_freeSkip; (simp only [List.getElem?_toArray, List.getElem?_cons_succ, List.getElem?_cons_zero]; rfl); (rfl); try simp only [Act.put, List.setIfInBounds_toArray, List.set_cons_zero, List.set_cons_succ])); refine linN_end ?_)
  have hB3 : Below W.heap.size W w3 := (below_drew (Below.refl W.heap.size W)).trans (show Below W.heap.size W.drew w3 from below_two hb2 hb3)
  have hR4 : RingAt w4 r g at_ size epoch n := (hd.below (below_two hb2 hb3) hrlt).pr hp4 hrg
  have hpx4 : PX [g, r] base W w4 := (PX.of_below hB3 hle).trans (PX.of_pr hp4 (by simp))
  clear k0 k1 k2 k3 k4 hgd hgn hgl hqi hwq HHD HCAT HWR hb2 hb3 ho2 ho3 hr2 hr3 hd hPd hId hdr2 hp4 hB3
  have k0 : w4.cell? ⟨r, 0, none⟩ = some (.pointer (some ⟨g, 0, none⟩)) := hR4.row.cell 0 rfl
  have HFL := Lib.hid (p_flushGone hP4 hI4 HG2.out)
  go_wp2_with fail
  refine HFL.out.mono ?_
  rintro e w5 ⟨rfl, hI5, hd5⟩
  exact ⟨rfl, rfl, hI5, hP4.dr hd5, hR4.dr hd5, hpx4.trans ((PX.of_pr (X := [g, r]) (PR.of_dr g hd5)) (by simp))⟩
end Go.Proofs.Ytmdmhjcdaejlkaa
