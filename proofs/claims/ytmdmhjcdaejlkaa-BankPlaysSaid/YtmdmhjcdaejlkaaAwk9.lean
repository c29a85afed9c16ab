/- dumbwaiterlaw9.awake. -/
import Derived.Test.YtmdmhjcdaejlkaaPenC
import Derived.Test.YtmdmhjcdaejlkaaMkB
import Derived.Test.YtmdmhjcdaejlkaaEqB
import Derived.Lib.SlBytesConst
set_option linter.unusedVariables false
set_option linter.unusedSimpArgs false
namespace Go.Proofs.Ytmdmhjcdaejlkaa
open Go.RowKit

theorem seal_at {D : Dk} {q : Int} (hq : D.has q = true) {s : Nat} (hs : D.size = (s : Int)) {B : List UInt8} (hB : B.length = s) : (D.write q B).at_ (D.write q B).now q = B := by
  rw [at_yes (by rw [write_has]; exact hq), write_size, write_now hq, hs]
  simp only [if_true]
  have h : fitL (s : Int) B = B := fitL_full _ _ (by rw [hB]; rfl)
  rw [h, h]
set_option maxHeartbeats 8000000 in
set_option maxRecDepth 100000 in
theorem c_awake9 (w : World) : Calls Try.prog 16 #[] w fun e w' => e = .returned (.bool true) ∧ Below w.heap.size w w' := by
  go_enter Try.func16, Try.ntmps16
  go_wp2_with fail
  refine (i_new 3 40 w (by decide) (by decide)).mono ?_
  rintro e w1 ⟨b, rfl, hI, hB⟩
  obtain ⟨key, hkey⟩ : ∃ key : List UInt8, key = 1 :: List.replicate 31 0 := ⟨_, rfl⟩
  have hk32 : key.length = 32 := by rw [hkey]; rfl
  have hkv : (#[.int .u8 1, .int .u8 0, .int .u8 0, .int .u8 0, .int .u8 0, .int .u8 0, .int .u8 0, .int .u8 0, .int .u8 0, .int .u8 0, .int .u8 0, .int .u8 0, .int .u8 0, .int .u8 0, .int .u8 0, .int .u8 0, .int .u8 0, .int .u8 0, .int .u8 0, .int .u8 0, .int .u8 0, .int .u8 0, .int .u8 0, .int .u8 0, .int .u8 0, .int .u8 0, .int .u8 0, .int .u8 0, .int .u8 0, .int .u8 0, .int .u8 0, .int .u8 0] : Array Value) = (bv key).toArray := by rw [hkey]; rfl
  have HKV := Lib.hid hkv
  have hfr : Free (dkNew 3 40) := ⟨rfl, rfl⟩
  have hsz : (dkNew 3 40).size = 40 := rfl
  have hhas : (dkNew 3 40).has 1 = true := by decide
  generalize dkNew 3 40 = D0 at *
  have hsl : (sealL key 5 0 [97, 98] 40).length = 40 := sealL_length (by decide)
  have hat := seal_at (D := D0) (q := 1) (s := 40) hhas hsz hsl
  have hop : openL key (sealL key 5 0 [97, 98] 40) = some [97, 98] := openL_sealL (by decide) (by decide)
  have hbo : bootN (sealL key 5 0 [97, 98] 40) = 5 := bootN_sealL (by decide)
  have hsq : seqN (sealL key 5 0 [97, 98] 40) = 0 := seqN_sealL (by decide)
  have hsz1 : (D0.write 1 (sealL key 5 0 [97, 98] 40)).size = 40 := (write_size _ _ _).trans hsz
  have hfr1 : Free (D0.write 1 (sealL key 5 0 [97, 98] 40)) := hfr.write _ _
  have HPW := Lib.hid (fun W (g : Nat) (A : Option Addr) (c : Nat) (hP : PenAt W g b key 5 0) (hI : In W w.heap.size b D0 0) (hgb : w.heap.size ≤ g) (hR : RdB W A 2 [97, 98]) => p_write hP hI (by decide) hgb hfr.goes 1 (by decide) A 2 c [97, 98] hR (by decide) (by decide) true (by rw [hsz]; decide))
  have e40 : D0.size.toNat = 40 := by rw [hsz]; rfl
  rw [e40] at HPW
  simp only [if_true] at HPW
  generalize sealL key 5 0 [97, 98] 40 = B at *
  generalize hD1 : D0.write 1 B = D1 at *
  clear hD1
  have HPN := Lib.hid (fun W (g : Nat) (A : Option Addr) (c : Nat) (hP : PenAt W g b key 5 (0 + 1)) (hI : In W w.heap.size b D1 (0 + 1)) (hgb : w.heap.size ≤ g) (hR : RdB W A 19 (List.replicate 19 0)) => p_write hP hI (by decide) hgb hfr1.goes 1 (by decide) A 19 c (List.replicate 19 0) hR (by decide) (by decide) false (by rw [hsz1]; decide))
  simp only [Bool.false_eq_true, if_false] at HPN
  have HPR := Lib.hid (fun W (g : Nat) (hP : PenAt W g b key 5 (0 + 1)) (hI : In W w.heap.size b D1 (0 + 1 + 1)) => p_read hP hI (by decide) hfr1.goes 1 (by decide))
  have HRD := Lib.hid (fun W (hI : In W w.heap.size b (D1.read 1) (0 + 1 + 1 + 1)) => i_read hI (by decide) (hfr1.read 1).goes 1 (by decide))
  rw [show (D1.read 1).at_ (D1.read 1).now 1 = D1.at_ D1.now 1 from rfl] at HRD
  rw [hat] at HPR HRD
  have h1 : opP key B = [97, 98] := by unfold opP; rw [hop]; rfl
  have h2 : (openL key B).isSome = true := by rw [hop]; rfl
  have h3 : opB key B = 5 := by unfold opB; rw [h2, if_pos rfl, hbo]
  have h4 : opS key B = 0 := by unfold opS; rw [h2, if_pos rfl, hsq]
  rw [h1, h2] at HPR
  have HK := Lib.hid hk32
  have H1 := Lib.hid h1
  have H2 := Lib.hid h2
  have H3 := Lib.hid h3
  have H4 := Lib.hid h4
  have HSL := Lib.hid hsl
  clear hkey hk32 hkv hfr hsz hhas hsl hat hop hbo hsq hsz1 hfr1 e40 h1 h2 h3 h4
  have HNEW := Lib.hid (p_new b key HK.out 5 (by decide) w1)
  rw [← HKV.out] at HNEW
  go_wp2_with fail
  refine HNEW.out.mono ?_
  rintro e w2 ⟨g, rfl, hP, hg, hb2⟩
  have hI2 := hI.below hb2
  have hgb : w.heap.size ≤ g := Nat.le_trans hI.le hg
  have hB2 := below_two hB hb2
  clear HNEW hI hB hb2 hg
  go_upto_region 5 with fail
  have hcv := Go.Lib.run_convert_bytes_const (P := Try.prog) w2 24 5 #[.int .u8 97, .int .u8 98] 2 2 Try.underlying24 Try.underlying5
  have hb3 := below_alloc (Below.refl w2.heap.size w2) (.cells #[.int .u8 97, .int .u8 98] 5 (2, 3))
  have hr3 : RdB (w2.alloc (.cells #[.int .u8 97, .int .u8 98] 5 (2, 3))) (some ⟨w2.heap.size, 0, none⟩) 2 [97, 98] := rd_lit w2 [.int .u8 97, .int .u8 98] 5 (2, 3) 2 rfl
  have HX := Lib.hid (HPW.out _ g _ 2 (hP.below hb3 hP.lt) (hI2.below hb3) hgb hr3)
  have hB3 := below_two hB2 hb3
  go_wp2_with fail
  refine HX.out.mono ?_
  rintro e w4 ⟨rfl, hI4, hP4, hp4⟩
  have hB4 := hB3.trans hp4.1
  clear HPW HX hcv hb3 hr3 hI2 hP hB2 hB3 hp4
  obtain ⟨w5, hrun, hr5, hb5⟩ := run_mkR w4 19 (by omega)
  simp only [show ((19 : Nat) : Int) = 19 from rfl] at hrun
  have HX2 := Lib.hid (HPN.out w5 g _ 19 (hP4.below hb5 hP4.lt) (hI4.below hb5) hgb hr5)
  have hB5 := hB4.trans (hb5.mono hB4.size)
  go_wp2_with fail
  refine HX2.out.mono ?_
  rintro e w6 ⟨rfl, hI6, hP6, hp6⟩
  have hB6 := hB5.trans hp6.1
  clear HPN HX2 hrun hr5 hb5 hI4 hP4 hB4 hB5 hp6
  have HX3 := Lib.hid (HPR.out w6 g hP6 hI6)
  go_wp2_with fail
  refine HX3.out.mono ?_
  rintro e w7 ⟨v7, rfl, ho7, hI7, hd7⟩
  have hP7 := hP6.dr hd7
  have hB7 := hB6.trans hd7.below
  obtain ⟨A7, d7, rfl, ld7, -, hr7⟩ := ho7.form
  clear HPR HX3 hI6 hP6 hB6 hd7
  have HX4 := Lib.hid (HRD.out w7 hI7)
  have hle7 := hI7.le
  go_wp2_with fail
  refine HX4.out.mono ?_
  rintro e w8 ⟨v8, rfl, ho8, hI8, hd8⟩
  have hP8 := hP7.dr hd8
  have hB8 := hB7.trans hd8.below
  have hr78 := (BytesAt.of_own (base := w.heap.size) ho7).keep hd8 (by decide)
  obtain ⟨A8, d8, rfl, ld8, -, hr8⟩ := ho8.form
  rw [HSL.out] at hr8 ld8 ⊢
  have HX5 := Lib.hid (c_rOpenT key HK.out A8 40 d8 B w8 hr8 ld8 (by decide))
  rw [H1.out, H2.out, H3.out, H4.out] at HX5
  rw [← HKV.out] at HX5
  simp only [show ((5 : Nat) : Int) = 5 from rfl, show ((0 : Nat) : Int) = 0 from rfl] at HX5
  clear HRD HX4 hI7 hP7 hB7 hd8 ho8
  go_wp2_with fail
  refine HX5.out.mono ?_
  rintro e w9 ⟨v9, rfl, ho9, hb9⟩
  have hP9 := hP8.below hb9 hP8.lt
  have hB9 := hB8.trans (hb9.mono hB8.size)
  obtain ⟨A7', d7', e7, -, -, r7, -⟩ := hr78
  simp only [Value.slice.injEq] at e7
  obtain ⟨rfl, -, rfl⟩ := e7
  obtain ⟨A9, d9, rfl, ld9, -, r9⟩ := ho9.form
  have hstr : strB [97, 98] = ⟨#[97, 98]⟩ := rfl
  have s1 : (convert 24 9 (.slice A7 2 d7)).run Try.prog w9 = .ok (.string ⟨#[97, 98]⟩) w9 := by
    rw [← hstr]; exact conv_rd (Rd.below r7 hb9 (Nat.le_refl _))
  have s2 : (convert 24 9 (.slice A9 2 d9)).run Try.prog w9 = .ok (.string ⟨#[97, 98]⟩) w9 := by
    rw [← hstr]; exact conv_rd r9
  have HSQ := Lib.hid (p_seq hP9)
  clear hstr r7 r9 ho9 hb9 hB8 hP8 hr7 ho7 hr8 HX5 hP9
  go_wp2_with (go_at_call 29; (with_reducible refine HSQ.out.mono ?_); rintro e w' ⟨rfl, rfl⟩; rw [show ((0 + 1 : Nat) : Int) = 1 from rfl])
  go_ret
  exact ⟨rfl, hB9⟩
end Go.Proofs.Ytmdmhjcdaejlkaa
