/- dumbwaiterlaw10.awake. -/
import Derived.Test.YtmdmhjcdaejlkaaSuprD
import Derived.Test.YtmdmhjcdaejlkaaAwk9
set_option linter.unusedVariables false
set_option linter.unusedSimpArgs false
namespace Go.Proofs.Ytmdmhjcdaejlkaa
open Go.RowKit

set_option maxHeartbeats 8000000 in
set_option maxRecDepth 100000 in
theorem c_awake10 (w : World) : Calls Try.prog 31 #[] w fun e w' => e = .returned (.bool true) ∧ Below w.heap.size w w' := by
  go_enter Try.func31, Try.ntmps31
  go_wp2_with fail
  refine (i_new 6 40 w (by decide) (by decide)).mono ?_
  rintro e w1 ⟨b, rfl, hI, hB⟩
  obtain ⟨key, hkey⟩ : ∃ key : List UInt8, key = 1 :: List.replicate 31 0 := ⟨_, rfl⟩
  have hk32 : key.length = 32 := by rw [hkey]; rfl
  have hkv : (#[.int .u8 1, .int .u8 0, .int .u8 0, .int .u8 0, .int .u8 0, .int .u8 0, .int .u8 0, .int .u8 0, .int .u8 0, .int .u8 0, .int .u8 0, .int .u8 0, .int .u8 0, .int .u8 0, .int .u8 0, .int .u8 0, .int .u8 0, .int .u8 0, .int .u8 0, .int .u8 0, .int .u8 0, .int .u8 0, .int .u8 0, .int .u8 0, .int .u8 0, .int .u8 0, .int .u8 0, .int .u8 0, .int .u8 0, .int .u8 0, .int .u8 0, .int .u8 0] : Array Value) = (bv key).toArray := by rw [hkey]; rfl
  have HKV := Lib.hid hkv
  have hfr : Free (dkNew 6 40) := ⟨rfl, rfl⟩
  have hsz : (dkNew 6 40).size = 40 := rfl
  have hh2 : (dkNew 6 40).has ((2 + 4 % 2 : Nat) : Int) = true := by decide
  have hh3 : (dkNew 6 40).has ((2 + 5 % 2 : Nat) : Int) = true := by decide
  have hbl : openL key (List.replicate 40 0) = none := by rw [hkey]; exact blank1
  have hf0 := epAt_fresh (key := key) (bl := 6) (s := 40) (by decide) hbl ((2 : Nat) : Int)
  simp only [show ((40 : Nat) : Int) = 40 from rfl] at hf0
  have hl0 : epLast key (dkNew 6 40) ((2 : Nat) : Int) = none := by unfold epLast; rw [hf0, hf0]; rfl
  generalize dkNew 6 40 = D0 at *
  obtain ⟨D1, hD1⟩ : ∃ D1, readsD D0 ((2 : Nat) : Int) 2 = D1 := ⟨_, rfl⟩
  have e1 : ∀ i, epAt key D1 ((2 : Nat) : Int) i = none := fun i => by rw [← hD1, epAt_reads]; exact hf0 i
  have f1 : Free D1 := by rw [← hD1]; exact hfr.reads _ _
  have s1 : D1.size = ((40 : Nat) : Int) := by rw [← hD1, reads_size]; exact hsz
  have h12 : ∀ q, D1.has q = D0.has q := fun q => by rw [← hD1, reads_has]
  obtain ⟨D2, hD2⟩ : ∃ D2, comD D1 key 5 0 2 4 = D2 := ⟨_, rfl⟩
  have e2 : ∀ i, epAt key D2 ((2 : Nat) : Int) i = if i = 4 % 2 then some 4 else none := fun i => by rw [← hD2, epAt_com s1 (by decide) (by decide) (by rw [h12]; exact hh2) (by decide), e1]
  have f2 : Free D2 := by rw [← hD2]; exact comD_free f1
  have s2 : D2.size = ((40 : Nat) : Int) := by rw [← hD2, comD_size]; exact s1
  have h22 : ∀ q, D2.has q = D0.has q := fun q => by rw [← hD2, comD_has, h12]
  obtain ⟨D3, hD3⟩ : ∃ D3, comD D2 key 5 (0 + 1) 2 5 = D3 := ⟨_, rfl⟩
  have e3 : ∀ i, epAt key D3 ((2 : Nat) : Int) i = if i = 5 % 2 then some 5 else if i = 4 % 2 then some 4 else none := fun i => by rw [← hD3, epAt_com s2 (by decide) (by decide) (by rw [h22]; exact hh3) (by decide), e2]
  have l3 : epLast key D3 ((2 : Nat) : Int) = some 5 := by unfold epLast; rw [e3, e3]; rfl
  have f3 : Free D3 := by rw [← hD3]; exact comD_free f2
  have a3 : D3.at_ D3.now 3 = sealL key 5 1 (textL 5) 40 := by rw [← hD3]; exact com_at (at_ := 2) (e := 5) s2 (by decide) (by rw [h22]; exact hh3)
  obtain ⟨D4, hD4⟩ : ∃ D4, readsD D3 ((2 : Nat) : Int) 2 = D4 := ⟨_, rfl⟩
  have f4 : Free D4 := by rw [← hD4]; exact f3.reads _ _
  have a4 : D4.at_ D4.now 3 = sealL key 5 1 (textL 5) 40 := by rw [← hD4, readsD_at]; exact a3
  have o4 : openL key (sealL key 5 1 (textL 5) 40) = some (textL 5) := openL_sealL (by rw [textL_length]; decide) (by decide)
  have HL0 := Lib.hid (fun W (g n : Nat) (hP : PenAt W g b key 5 0) (hI : In W w.heap.size b D0 n) (hn : n ≤ 700000) => c_lastE hP hI hn hfr 2 2 rfl (by decide))
  have HC1 := Lib.hid (fun W (g n : Nat) (hP : PenAt W g b key 5 0) (hI : In W w.heap.size b D1 n) (hn : n ≤ 700000) (hg : w.heap.size ≤ g) => c_commit hP hI hn hg f1 2 4 (by decide) (by decide) (by decide) (by rw [s1]; decide))
  have HC2 := Lib.hid (fun W (g n : Nat) (hP : PenAt W g b key 5 (0 + 1)) (hI : In W w.heap.size b D2 n) (hn : n ≤ 700000) (hg : w.heap.size ≤ g) => c_commit hP hI hn hg f2 2 5 (by decide) (by decide) (by decide) (by rw [s2]; decide))
  have HL3 := Lib.hid (fun W (g n : Nat) (hP : PenAt W g b key 5 (0 + 1 + 1)) (hI : In W w.heap.size b D3 n) (hn : n ≤ 700000) => c_lastE hP hI hn f3 2 2 rfl (by decide))
  have HRD := Lib.hid (fun W (g n : Nat) (hP : PenAt W g b key 5 (0 + 1 + 1)) (hI : In W w.heap.size b D4 n) (hn : n ≤ 700000) => p_read hP hI (by omega) f4.goes 3 (by decide))
  rw [hl0, hD1] at HL0
  rw [hD2] at HC1
  rw [hD3] at HC2
  rw [l3, hD4] at HL3
  rw [a4, o4, opP_some o4] at HRD
  simp only [Option.getD, Option.isSome, show ((0 : Nat) : Int) = 0 from rfl, show ((2 : Nat) : Int) = 2 from rfl, show ((4 : Nat) : Int) = 4 from rfl, show ((5 : Nat) : Int) = 5 from rfl] at HL0 HC1 HC2 HL3
  have HK := Lib.hid hk32
  have hstr : strB (textL 5) = ⟨#[101, 112, 111, 99, 104, 5, 0, 0, 0, 0, 0, 0, 0]⟩ := by decide +kernel
  have HST := Lib.hid hstr
  clear hkey hk32 hkv hfr hsz hh2 hh3 hbl hf0 hl0 e1 f1 s1 h12 e2 f2 s2 h22 e3 l3 f3 a3 f4 a4 o4 hD1 hD2 hD3 hD4 hstr
  have HNEW := Lib.hid (p_new b key HK.out 5 (by decide) w1)
  rw [← HKV.out] at HNEW
  go_wp2_with fail
  refine HNEW.out.mono ?_
  rintro e w2 ⟨g, rfl, hP, hg, hb2⟩
  have hI2 := hI.below hb2
  have hgb : w.heap.size ≤ g := Nat.le_trans hI.le hg
  have hB2 := below_two hB hb2
  clear HNEW hI hB hb2 hg
  go_wp2_with fail
  refine (HL0.out _ _ _ hP hI2 (by decide)).mono ?_
  rintro e w3 ⟨rfl, hI3, hP3, hd3⟩
  have hB3 := hB2.trans hd3.below
  clear HL0 hP hI2 hB2 hd3
  go_wp2_with fail
  refine (HC1.out _ _ _ hP3 hI3 (by decide) hgb).mono ?_
  rintro e w4 ⟨rfl, hI4, hP4, hp4⟩
  have hB4 := hB3.trans hp4.1
  clear HC1 hP3 hI3 hB3 hp4
  go_wp2_with fail
  refine (HC2.out _ _ _ hP4 hI4 (by decide) hgb).mono ?_
  rintro e w5 ⟨rfl, hI5, hP5, hp5⟩
  have hB5 := hB4.trans hp5.1
  clear HC2 hP4 hI4 hB4 hp5
  go_wp2_with fail
  refine (HL3.out _ _ _ hP5 hI5 (by decide)).mono ?_
  rintro e w6 ⟨rfl, hI6, hP6, hd6⟩
  have hB6 := hB5.trans hd6.below
  clear HL3 hP5 hI5 hB5 hd6
  go_wp2_with fail
  refine (HRD.out _ _ _ hP6 hI6 (by decide)).mono ?_
  rintro e w7 ⟨v7, rfl, ho7, hI7, hd7⟩
  have hB7 := hB6.trans hd7.below
  have s1 := conv_own ho7
  rw [HST.out] at s1
  clear HRD hP6 hI6 hB6 hd7 ho7 HST
  go_wp2_with fail
  go_ret
  exact ⟨rfl, hB7⟩
end Go.Proofs.Ytmdmhjcdaejlkaa
