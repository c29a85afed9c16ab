/- dumbwaiterlaw12.awake. -/
import Derived.Test.YtmdmhjcdaejlkaaBankE
import Derived.Test.YtmdmhjcdaejlkaaSuprD
set_option linter.unusedVariables false
set_option linter.unusedSimpArgs false
namespace Go.Proofs.Ytmdmhjcdaejlkaa
open Go.RowKit

/-- bytes of one's own stay where no block of bytes is turned -/
theorem OwnB.pxB {W W' : World} {base B : Nat} {v : Value} {xs : List UInt8} {X : List Nat} (h : OwnB W B 5 v xs) (hp : PX X base W W') (hX : ∀ x ∈ X, ∃ c T, Row W x c T ∧ T ≠ 5) : OwnB W' B 5 v xs := by
  refine ⟨h.1, ?_⟩
  rcases h.2 with h | ⟨g, cap, cur, hv, hg, hh, r⟩
  · exact .inl h
  · refine .inr ⟨g, cap, cur, hv, hg, hp.2 g cur 5 hh (by decide) (fun hx => ?_), r⟩
    obtain ⟨c, T, hr, hT⟩ := hX g hx
    exact hT (row_typeB hr hh)
theorem PX.of_dr {X : List Nat} {base : Nat} {W W' : World} (h : DR dTy base W W') : PX X base W W' := ⟨h.below, fun k c T hr hT _ => hr.dr h hT⟩
theorem PX.drew {X : List Nat} {base : Nat} {W W' : World} (h : PX X base W W') : PX X base W W'.drew := ⟨below_drew h.1, h.2⟩
/-- one byte of one's own -/
theorem OwnB.one {W : World} {B : Nat} {v : Value} {x : UInt8} (h : OwnB W B 5 v [x]) : ∃ g c, v = .slice (some ⟨g, 0, none⟩) 1 c ∧ W.cell? ⟨g, 0, none⟩ = some (.int .u8 x.toNat) := by
  rcases h.2 with ⟨_, e⟩ | ⟨g, cap, cur, e, hg, hh, q1, q2, q3, q4⟩
  · cases e
  · refine ⟨g, cap, e, Row.cell (show Row W g cur 5 from hh) 0 ?_⟩
    have := congrArg (fun l : List Value => l[0]?) q4
    simpa [bv, List.getElem?_take] using this
/-- what a bank stands on -/
structure Bk (W : World) (base b n : Nat) (D : Dk) (g : Nat) (key : List UInt8) (boot seq gB gp at_ : Nat) (l : List (Bool × Bool)) : Prop where
  i : In W base b D n
  p : PenAt W g b key boot seq
  k : BankAt W gB gp g at_ l
  hg : base ≤ g
  hgp : base ≤ gp
theorem Bk.foreign {W : World} {base b n g boot seq gB gp at_ : Nat} {D : Dk} {key : List UInt8} {l : List (Bool × Bool)} (h : Bk W base b n D g key boot seq gB gp at_ l) : ∀ x ∈ [g, gp], ∃ c T, Row W x c T ∧ T ≠ 5 := by
  intro x hx
  simp only [List.mem_cons, List.not_mem_nil, or_false] at hx
  rcases hx with rfl | rfl
  · exact ⟨_, _, h.p.row, by decide⟩
  · exact ⟨_, _, h.k.pl, by decide⟩
theorem Bk.foreign1 {W : World} {base b n g boot seq gB gp at_ : Nat} {D : Dk} {key : List UInt8} {l : List (Bool × Bool)} (h : Bk W base b n D g key boot seq gB gp at_ l) : ∀ x ∈ [gp], ∃ c T, Row W x c T ∧ T ≠ 5 := fun x hx => h.foreign x (by simp only [List.mem_singleton] at hx; simp [hx])
theorem Bk.up {W W' : World} {base b n g boot seq gB gp at_ : Nat} {D : Dk} {key : List UInt8} {l : List (Bool × Bool)} (h : Bk W base b n D g key boot seq gB gp at_ l) (hb : Below W.heap.size W W') : Bk W' base b n D g key boot seq gB gp at_ l :=
  ⟨h.i.below hb, h.p.below hb h.p.lt, h.k.up hb, h.hg, h.hgp⟩
section
variable {W : World} {base b n g gB gp at_ boot seq : Nat} {D : Dk} {key : List UInt8} {l : List (Bool × Bool)}
theorem b_read (h : Bk W base b n D g key boot seq gB gp at_ l) (hn : n ≤ 800000) (hg : D.goes = false) (i : Nat) (s f : Bool) (hl : l[i]? = some (s, f)) (hi : i ≤ 100000) (ha : at_ ≤ 100000) :
    Calls Try.prog 55 #[.pointer (some ⟨gB, 0, none⟩), .int .i64 (i : Int)] W fun e w' => ∃ v, e = .returned (.tuple #[v, .bool (openL key (D.at_ D.now (blkN at_ i (s != f) : Nat))).isSome]) ∧ OwnB w' W.heap.size 5 v (opP key (D.at_ D.now (blkN at_ i (s != f) : Nat))) ∧
      Bk w' base b (n + 1) (D.read (blkN at_ i (s != f) : Nat)) g key boot seq gB gp at_ l ∧ PX [g, gp] base W w' :=
  (c_bkRead h.k h.p h.i hn hg i s f hl hi ha).mono fun e w' ⟨v, he, ho, hi, hk, hp, hd⟩ => ⟨v, he, ho, ⟨hi, hp, hk, h.hg, h.hgp⟩, PX.of_dr hd⟩
theorem b_write (h : Bk W base b n D g key boot seq gB gp at_ l) (hn : n ≤ 800000) (hg : D.goes = false) (i : Nat) (s f : Bool) (hl : l[i]? = some (s, f)) (hi : i ≤ 100000) (ha : at_ ≤ 100000) (A : Option Addr) (m c : Nat) (plain : List UInt8) (hR : RdB W A m plain) (hq : seq < 18446744073709551615) (r : Bool) (hf : fitsB m D.size = r) :
    Calls Try.prog 52 #[.pointer (some ⟨gB, 0, none⟩), .int .i64 (i : Int), .slice A m c] W fun e w' => e = .returned (.bool r) ∧ Bk w' base b (n + 1) (if r = true then D.write (blkN at_ i (!s) : Nat) (sealL key boot seq plain D.size.toNat) else D) g key boot (if r = true then seq + 1 else seq) gB gp at_ (if r = true then l.set i (s, true) else l) ∧ PX [g, gp] base W w' :=
  (c_bkWrite h.k h.p h.i hn h.hg h.hgp hg i s f hl hi ha A m c plain hR hq r hf).mono fun e w' ⟨he, hi, hk, hp, hx⟩ => ⟨he, ⟨hi, hp, hk, h.hg, h.hgp⟩, hx⟩
theorem b_commit (h : Bk W base b n D g key boot seq gB gp at_ l) (hll : l.length ≤ 100000) :
    Calls Try.prog 53 #[.pointer (some ⟨gB, 0, none⟩)] W fun e w' => e = .returned (.tuple #[]) ∧ Bk w' base b n D g key boot seq gB gp at_ (l.map cmP) ∧ PX [g, gp] base W w' :=
  (c_bkCommit h.k h.p h.i h.hgp hll).mono fun e w' ⟨he, hi, hk, hp, hx⟩ => ⟨he, ⟨hi, hp, hk, h.hg, h.hgp⟩, hx.less (by simp)⟩
theorem b_state (h : Bk W base b n D g key boot seq gB gp at_ l) (hll : l.length ≤ 100000) :
    Calls Try.prog 51 #[.pointer (some ⟨gB, 0, none⟩)] W fun e w' => ∃ v, e = .returned v ∧ OwnB w' W.heap.size 5 v (stL l) ∧ Bk w' base b n D g key boot seq gB gp at_ l ∧ Below W.heap.size W w' :=
  (c_bkState h.k hll).mono fun e w' ⟨v, he, ho, hb⟩ => ⟨v, he, ho, h.up hb, hb⟩
/-- a state of one's own is loaded -/
theorem b_load (h : Bk W base b n D g key boot seq gB gp at_ l) (hll : l.length ≤ 100000) (A : Option Addr) (m c B : Nat) (xs : List UInt8) (hO : OwnB W B 5 (.slice A m c) xs) (hx : xs.length = m) (hm : m ≤ 100000) (hok : okLd l.length xs = true) :
    Calls Try.prog 54 #[.pointer (some ⟨gB, 0, none⟩), .slice A m c] W fun e w' => e = .returned (.bool true) ∧ Bk w' base b n D g key boot seq gB gp at_ (ldL l.length xs) ∧ PX [g, gp] base W w' := by
  refine (c_bkLoad h.k h.p h.i h.hgp hll A m c xs (fun w' hp => ?_) hm hok).mono fun e w' ⟨he, hi, hk, hp, hx⟩ => ⟨he, ⟨hi, hp, hk, h.hg, h.hgp⟩, hx.less (by simp)⟩
  obtain ⟨A', c', e, _, _, hr⟩ := (hO.pxB hp h.foreign1).form
  subst hx
  cases e
  exact hr
end
set_option maxHeartbeats 8000000 in
set_option maxRecDepth 100000 in
theorem c_awake12 (w : World) : Calls Try.prog 50 #[] w fun e w' => e = .returned (.bool true) ∧ Below w.heap.size w w' := by
  go_enter Try.func50, Try.ntmps50
  go_wp2_with fail
  refine (i_new 8 40 w (by decide) (by decide)).mono ?_
  rintro e w1 ⟨b, rfl, hI, hB⟩
  obtain ⟨key, hkey⟩ : ∃ key : List UInt8, key = 1 :: List.replicate 31 0 := ⟨_, rfl⟩
  have hk32 : key.length = 32 := by rw [hkey]; rfl
  have hkv : (#[.int .u8 1, .int .u8 0, .int .u8 0, .int .u8 0, .int .u8 0, .int .u8 0, .int .u8 0, .int .u8 0, .int .u8 0, .int .u8 0, .int .u8 0, .int .u8 0, .int .u8 0, .int .u8 0, .int .u8 0, .int .u8 0, .int .u8 0, .int .u8 0, .int .u8 0, .int .u8 0, .int .u8 0, .int .u8 0, .int .u8 0, .int .u8 0, .int .u8 0, .int .u8 0, .int .u8 0, .int .u8 0, .int .u8 0, .int .u8 0, .int .u8 0, .int .u8 0] : Array Value) = (bv key).toArray := by rw [hkey]; rfl
  have HKV := Lib.hid hkv
  have hbn : openL key (List.replicate 40 0) = none := by rw [hkey]; exact blank1
  obtain ⟨D0, hD0⟩ : ∃ D0, dkNew 8 40 = D0 := ⟨_, rfl⟩
  have f0 : Free D0 := by rw [← hD0]; exact ⟨rfl, rfl⟩
  have z0 : D0.size = 40 := by rw [← hD0]; rfl
  have o0 : openL key (D0.at_ D0.now 5) = none := by
    rw [← hD0]
    rcases fresh_at (bl := 8) (s := 40) (by decide) 5 with e | e
    · have e' : (dkNew 8 40).at_ (dkNew 8 40).now 5 = [] := e
      rw [e']; exact openL_nil key
    · have e' : (dkNew 8 40).at_ (dkNew 8 40).now 5 = List.replicate 40 0 := e
      rw [e']; exact hbn
  have h4 : D0.has 4 = true := by rw [← hD0]; decide
  rw [hD0] at hI
  obtain ⟨D1, hD1⟩ : ∃ D1, D0.read 5 = D1 := ⟨_, rfl⟩
  have f1 : Free D1 := by rw [← hD1]; exact f0.read 5
  have z1 : D1.size = 40 := by rw [← hD1]; exact z0
  have h41 : D1.has 4 = true := by rw [← hD1]; exact h4
  have o1 : openL key (D1.at_ D1.now 5) = none := by rw [← hD1]; exact o0
  obtain ⟨D2, hD2⟩ : ∃ D2, D1.write 4 (sealL key 5 0 [97] 40) = D2 := ⟨_, rfl⟩
  have f2 : Free D2 := by rw [← hD2]; exact f1.write _ _
  have o2 : openL key (D2.at_ D2.now 4) = some [97] := by
    rw [← hD2, seal_at h41 (s := 40) z1 (sealL_length (by decide))]
    exact openL_sealL (by decide) (by decide)
  have p2 : openL key (D2.at_ D2.now 5) = none := by rw [← hD2, write_at_ne (by decide)]; exact o1
  obtain ⟨D3, hD3⟩ : ∃ D3, D2.read 4 = D3 := ⟨_, rfl⟩
  have f3 : Free D3 := by rw [← hD3]; exact f2.read 4
  have o3 : openL key (D3.at_ D3.now 4) = some [97] := by rw [← hD3]; exact o2
  have p3 : openL key (D3.at_ D3.now 5) = none := by rw [← hD3]; exact p2
  obtain ⟨D4, hD4⟩ : ∃ D4, D3.read 4 = D4 := ⟨_, rfl⟩
  have f4 : Free D4 := by rw [← hD4]; exact f3.read 4
  have p4 : openL key (D4.at_ D4.now 5) = none := by rw [← hD4]; exact p3
  have S0 : stL [(true, false), (true, false), (true, false)] = [7] := by decide
  have S1 : stL [(true, false), (true, true), (true, false)] = [7] := by decide
  have S2 : stL [(true, false), (false, false), (true, false)] = [5] := by decide
  have L1 : okLd 3 [7] = true := by decide
  have L2 : ldL 3 [7] = [(true, false), (true, false), (true, false)] := by decide
  have L3 : okLd 3 [8] = false := by decide
  have L4 : okLd 3 [] = false := by decide
  have HS := Lib.hid (And.intro S0 (And.intro S1 (And.intro S2 (And.intro L1 (And.intro L2 (And.intro L3 L4))))))
  -- the contracts
  have HR0 := Lib.hid (fun W (g gB gp nn : Nat) (h : Bk W w.heap.size b nn D0 g key 5 0 gB gp 2 [(true, false), (true, false), (true, false)]) (hn : nn ≤ 1000) => b_read h (by omega) f0.goes 1 true false rfl (by decide) (by decide))
  have HW0 := Lib.hid (fun W (g gB gp nn : Nat) (h : Bk W w.heap.size b nn D1 g key 5 0 gB gp 2 [(true, false), (true, false), (true, false)]) (hn : nn ≤ 1000) (A : Option Addr) (c : Nat) (hR : RdB W A 1 [97]) => b_write h (by omega) f1.goes 1 true false rfl (by decide) (by decide) A 1 c [97] hR (by decide) true (by rw [z1]; decide))
  have HR1 := Lib.hid (fun W (g gB gp nn : Nat) (h : Bk W w.heap.size b nn D2 g key 5 1 gB gp 2 [(true, false), (true, true), (true, false)]) (hn : nn ≤ 1000) => b_read h (by omega) f2.goes 1 true true rfl (by decide) (by decide))
  have HR2 := Lib.hid (fun W (g gB gp nn : Nat) (h : Bk W w.heap.size b nn D3 g key 5 1 gB gp 2 [(true, false), (false, false), (true, false)]) (hn : nn ≤ 1000) => b_read h (by omega) f3.goes 1 false false rfl (by decide) (by decide))
  have HR3 := Lib.hid (fun W (g gB gp nn : Nat) (h : Bk W w.heap.size b nn D4 g key 5 1 gB gp 2 [(true, false), (true, false), (true, false)]) (hn : nn ≤ 1000) => b_read h (by omega) f4.goes 1 true false rfl (by decide) (by decide))
  simp only [show (true != false) = true from rfl, show (true != true) = false from rfl, show (false != false) = false from rfl, show (!true) = false from rfl, show blkN 2 1 true = 5 from rfl, show blkN 2 1 false = 4 from rfl, show ((5 : Nat) : Int) = 5 from rfl, show ((4 : Nat) : Int) = 4 from rfl, show ((1 : Nat) : Int) = 1 from rfl, if_true, z1, show (40 : Int).toNat = 40 from rfl, List.set_cons_succ, List.set_cons_zero, Nat.zero_add] at HR0 HW0 HR1 HR2 HR3
  rw [o0, opP_none o0, hD1] at HR0
  rw [hD2] at HW0
  rw [o2, opP_some o2, hD3] at HR1
  rw [o3, opP_some o3, hD4] at HR2
  rw [p4, opP_none p4] at HR3
  simp only [Option.isSome] at HR0 HR1 HR2 HR3
  have HK := Lib.hid hk32
  clear hkey hk32 hkv hbn f0 z0 o0 h4 hD1 f1 z1 h41 o1 hD2 f2 o2 p2 hD3 f3 o3 p3 hD4 f4 p4 S0 S1 S2 L1 L2 L3 L4 hD0
  generalize D4.read 5 = D5 at *
  have HNEW := Lib.hid (p_new b key HK.out 5 (by decide) w1)
  rw [← HKV.out] at HNEW
  go_wp2_with fail
  refine HNEW.out.mono ?_
  rintro e w2 ⟨g, rfl, hP, hg, hb2⟩
  have hI2 := hI.below hb2
  have hgb : w.heap.size ≤ g := Nat.le_trans hI.le hg
  have hB2 := below_two hB hb2
  clear HNEW hI hB hb2 hg
  have hbn := c_bkNew g 2 3 (by decide) w2
  simp only [show ((2 : Nat) : Int) = 2 from rfl, show ((3 : Nat) : Int) = 3 from rfl] at hbn
  have HBN := Lib.hid hbn
  clear hbn
  go_wp2_with fail
  refine HBN.out.mono ?_
  rintro e w3 ⟨gB, gp, rfl, hK, hgB, hgp, hb3⟩
  have k3 : Bk w3 w.heap.size b 0 D0 g key 5 0 gB gp 2 [(true, false), (true, false), (true, false)] := ⟨hI2.below hb3, hP.below hb3 hP.lt, hK, hgb, Nat.le_trans hI2.le hgp⟩
  have hB3 := below_two hB2 hb3
  clear HBN hI2 hP hK hgB hgp hb3 hB2 hgb
  have HA := Lib.hid (b_state k3 (by decide))
  rw [HS.out.1] at HA
  go_upto_region 7 with (go_at_call 51; (with_reducible refine HA.out.mono ?_); rintro e w4 ⟨vs, rfl, os4, k4, hb4⟩)
  have hB4 := below_two hB3 hb4
  clear HA k3 hB3 hb4
  have HA := Lib.hid (HR0.out _ _ _ _ _ k4 (by decide))
  go_upto_region 8 with (go_at_call 55; (with_reducible refine HA.out.mono ?_); rintro e w5 ⟨v5, rfl, -, k5, hx5⟩)
  have os5 := os4.pxB hx5 k4.foreign
  have hB5 := hB4.trans hx5.1
  clear HA HR0 k4 hB4 hx5 os4
  have hcv := Go.Lib.run_convert_bytes_const (P := Try.prog) w5 24 5 #[.int .u8 97] 1 1 Try.underlying24 Try.underlying5
  have hb6 := below_alloc (Below.refl w5.heap.size w5) (.cells #[.int .u8 97] 5 (1, 2))
  have hl6 : RdB (w5.alloc (.cells #[.int .u8 97] 5 (1, 2))) (some ⟨w5.heap.size, 0, none⟩) 1 [97] := rd_lit w5 [.int .u8 97] 5 (1, 2) 1 rfl
  have k6 := k5.up hb6
  have HA := Lib.hid (HW0.out _ _ _ _ _ k6 (by decide) _ 1 hl6)
  have os6 := os5.below hb6
  have hB6 := below_two hB5 hb6
  clear HW0 k5 hB5 hb6 os5
  go_upto_region 9 with (go_at_call 52; (with_reducible refine HA.out.mono ?_); rintro e w7 ⟨rfl, k7, hx7⟩)
  have os7 := os6.pxB hx7 k6.foreign
  have hB7 := hB6.trans hx7.1
  clear HA k6 hB6 hx7 os6 hcv hl6
  have HA := Lib.hid (HR1.out _ _ _ _ _ k7 (by decide))
  go_upto_region 10 with (go_at_call 55; (with_reducible refine HA.out.mono ?_); rintro e w8 ⟨v8, rfl, ox8, k8, hx8⟩)
  have os8 := os7.pxB hx8 k7.foreign
  have hB8 := hB7.trans hx8.1
  clear HA HR1 k7 hB7 hx8 os7
  have HA := Lib.hid (b_state k8 (by decide))
  rw [HS.out.2.1] at HA
  go_upto_region 11 with (go_at_call 51; (with_reducible refine HA.out.mono ?_); rintro e w9 ⟨vt, rfl, ot9, k9, hb9⟩)
  have hB9 := below_two hB8 hb9
  have os9 := os8.below hb9
  have ox9 := ox8.below hb9
  clear HA k8 hB8 hb9 os8 ox8
  have HA := Lib.hid (b_commit k9 (by decide))
  simp only [List.map_cons, List.map_nil, cmP, show (true != false) = true from rfl, show (true != true) = false from rfl] at HA
  go_upto_region 12 with (go_at_call 53; (with_reducible refine HA.out.mono ?_); rintro e wa ⟨rfl, ka, hxa⟩)
  have osa := os9.pxB hxa k9.foreign
  have oxa := ox9.pxB hxa k9.foreign
  have ota := ot9.pxB hxa k9.foreign
  have hBa := hB9.trans hxa.1
  clear HA k9 hB9 hxa os9 ox9 ot9
  have HA := Lib.hid (HR2.out _ _ _ _ _ ka (by decide))
  go_upto_region 13 with (go_at_call 55; (with_reducible refine HA.out.mono ?_); rintro e wb ⟨vb, rfl, oyb, kb, hxb⟩)
  have osb := osa.pxB hxb ka.foreign
  have oxb := oxa.pxB hxb ka.foreign
  have otb := ota.pxB hxb ka.foreign
  have hBb := hBa.trans hxb.1
  clear HA HR2 ka hBa hxb osa oxa ota
  have HA := Lib.hid (b_state kb (by decide))
  rw [HS.out.2.2.1] at HA
  go_upto_region 14 with (go_at_call 51; (with_reducible refine HA.out.mono ?_); rintro e wc ⟨vu, rfl, ouc, kc, hbc⟩)
  have osc := osb.below hbc
  have oxc := oxb.below hbc
  have otc := otb.below hbc
  have oyc := oyb.below hbc
  have hBc := below_two hBb hbc
  clear HA kb hBb hbc osb oxb otb oyb
  obtain ⟨As, cs, rfl, lcs, -, -⟩ := osc.form
  have HA := Lib.hid (b_load kc (by decide) As 1 cs _ [7] osc rfl (by decide) HS.out.2.2.2.1)
  simp only [List.length_cons, List.length_nil, Nat.zero_add, Nat.reduceAdd] at HA lcs ⊢
  rw [HS.out.2.2.2.2.1] at HA
  go_upto_region 15 with (go_at_call 54; (with_reducible refine HA.out.mono ?_); rintro e wd ⟨rfl, kd, hxd⟩)
  have osd := osc.pxB hxd kc.foreign
  have oxd := oxc.pxB hxd kc.foreign
  have otd := otc.pxB hxd kc.foreign
  have oyd := oyc.pxB hxd kc.foreign
  have oud := ouc.pxB hxd kc.foreign
  have hBd := hBc.trans hxd.1
  clear HA kc hBc hxd osc oxc otc oyc ouc
  have HA := Lib.hid (HR3.out _ _ _ _ _ kd (by decide))
  go_wp2_with fail
  refine HA.out.mono ?_
  rintro e we ⟨ve, rfl, -, ke, hxe⟩
  have os := osd.pxB hxe kd.foreign
  have ox := oxd.pxB hxe kd.foreign
  have ot := otd.pxB hxe kd.foreign
  have oy := oyd.pxB hxe kd.foreign
  have ou := oud.pxB hxe kd.foreign
  have hBe := hBd.trans hxe.1
  clear HA HR3 kd hBd hxe osd oxd otd oyd oud
  have sx := conv_own ox
  have sy := conv_own oy
  obtain ⟨gs, cs', es, ls⟩ := os.one
  cases es
  obtain ⟨gt, ct, rfl, lt⟩ := ot.one
  obtain ⟨gu, cu, rfl, lu⟩ := ou.one
  simp only [show ((7 : UInt8).toNat : Int) = 7 from rfl, show ((5 : UInt8).toNat : Int) = 5 from rfl] at ls lt lu
  have s3 : strB [97] = ⟨#[97]⟩ := rfl
  rw [s3] at sx sy
  have hb8 := below_alloc (Below.refl we.heap.size we) (.cells #[.int .u8 8] 5)
  have hl8 : RdB (we.alloc (.cells #[.int .u8 8] 5)) (some ⟨we.heap.size, 0, none⟩) 1 [8] := rd_lit we [.int .u8 8] 5 (0, 0) 1 rfl
  have HN1 := Lib.hid (c_bkLoadNo (ke.k.up hb8) (by decide) _ 1 1 [8] hl8 (by decide) HS.out.2.2.2.2.2.1)
  have HN2 := Lib.hid (fun W (h : BankAt W gB gp g 2 [(true, false), (true, false), (true, false)]) => c_bkLoadNo h (by decide) none 0 0 [] ⟨by simp [bv], fun h => absurd h (by decide)⟩ (by decide) HS.out.2.2.2.2.2.2)
  have hBk := ke.k.up hb8
  have hBx := below_two hBe hb8
  clear os ox ot oy ou s3 hl8 ke hBe
  go_wp2_with (go_at_call 54; first | ((with_reducible refine HN1.out.mono ?_); rintro e wf ⟨rfl, hbf⟩) | ((with_reducible refine (HN2.out _ (hBk.up hbf)).mono ?_); rintro e wg ⟨rfl, hbg⟩))
  go_ret
  exact ⟨rfl, below_two (below_two hBx hbf) hbg⟩
end Go.Proofs.Ytmdmhjcdaejlkaa
