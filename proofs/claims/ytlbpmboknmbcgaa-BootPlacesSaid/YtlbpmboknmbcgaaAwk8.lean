/- dumbwaiterlaw8.awake. -/
import Derived.Test.YtlbpmboknmbcgaaBootP
set_option linter.unusedVariables false
set_option linter.unusedSimpArgs false
namespace Go.Proofs.Ytlbpmboknmbcgaa
open Go.RowKit

/-- a device on which the number m stands at a, a + 1, and that has power -/
structure Bt (D : Dk) (a m : Nat) : Prop where
  fr : Free D
  two : Two D a
  la : lastN D a = m
theorem Bt.bump {D : Dk} {a m : Nat} (h : Bt D a m) (hm : m < 4294967295) : Bt (bumpW D a).flush a (m + 1) :=
  ⟨(h.fr.bumpW a).flush, h.two.bump, by rw [lastN_flush, bump_last h.two (by rw [h.la]; exact hm), h.la]⟩
theorem Bt.look {D : Dk} {a m : Nat} (h : Bt D a m) : Bt (look D a) a m := ⟨h.fr.look a, h.two.look, h.la⟩
variable {W : World} {base b n : Nat} {D : Dk}
theorem i_bump (h : In W base b D n) (hn : n ≤ 800000) (a : Nat) (ha : a ≤ 1000) (x : Int) (hx : x = (a : Int)) (m : Nat) (hb : Bt D a m) (hm : m < 4294967295) (y : Int) (hy : y = ((m + 1 : Nat) : Int)) :
    Calls Try.prog 51 #[.pointer (some ⟨b, 0, none⟩), .int .i64 x] W fun e w' => e = .returned (.tuple #[.int .u32 y, .int .i64 0]) ∧ In w' base b (bumpW D a).flush (n + 4) ∧ DR dTy base W w' := by
  subst hx hy
  have h1 := c_bumpOk h hn a ha hb.fr.goes (hb.fr.read a).goes (by rw [hb.la]; exact hm) (hb.fr.look a).goes (hb.fr.bumpW a).goes
  rw [hb.la] at h1
  exact h1
theorem i_bumpFull (h : In W base b D n) (hn : n ≤ 800000) (a : Nat) (ha : a ≤ 1000) (x : Int) (hx : x = (a : Int)) (hb : Bt D a 4294967295) :
    Calls Try.prog 51 #[.pointer (some ⟨b, 0, none⟩), .int .i64 x] W fun e w' => e = .returned (.tuple #[.int .u32 0, .int .i64 5]) ∧ In w' base b (look D a) (n + 2) ∧ DR dTy base W w' := by
  subst hx
  exact c_bumpFull h hn a ha hb.fr.goes (hb.fr.read a).goes hb.la
theorem i_last (h : In W base b D n) (hn : n ≤ 800000) (a : Nat) (ha : a ≤ 1000) (x : Int) (hx : x = (a : Int)) (m : Nat) (hb : Bt D a m) (y : Int) (hy : y = (m : Int)) :
    Calls Try.prog 53 #[.pointer (some ⟨b, 0, none⟩), .int .i64 x] W fun e w' => e = .returned (.int .u32 y) ∧ In w' base b (look D a) (n + 2) ∧ DR dTy base W w' := by
  subst hx hy
  have h1 := c_last h hn a ha hb.fr.goes (hb.fr.read a).goes
  rw [hb.la] at h1
  exact h1
theorem lastN_new (bl sz : Int) (a : Nat) : lastN (dkNew bl sz) a = 0 := by
  have h : ∀ i : Int, parseV ((dkNew bl sz).at_ (dkNew bl sz).now i) = 0 := by
    intro i
    unfold Dk.at_
    split
    · show parseV (fitL _ []) = 0
      rw [fitL_nil]; exact parseV_none (parse_zeros _)
    · exact parseV_none (parse_no (fun h => by have := h.1; simp at this))
  unfold lastN
  rw [h, h]; rfl
theorem bt_new (bl sz : Int) (a : Nat) (h1 : (a : Int) + 1 < bl) (h1b : bl ≤ 1000) (h2 : 24 ≤ sz) (h3 : sz ≤ 1000) : Bt (dkNew bl sz) a 0 := by
  refine ⟨⟨rfl, rfl⟩, ⟨?_, ?_, ?_⟩, lastN_new bl sz a⟩
  · exact has_true (by omega) (by show (a : Int) < min (max bl 0) 100000; omega)
  · exact has_true (by omega) (by show (a : Int) + 1 < min (max bl 0) 100000; omega)
  · show (24 : Int) ≤ min (max sz 0) 60000; omega
/-- the greatest number, written at the first place -/
theorem bt_full {D : Dk} {a m : Nat} (h : Bt D a m) : Bt (D.write a (recP 4294967295)) a 4294967295 := by
  refine ⟨h.fr.write _ _, h.two.write _ _, ?_⟩
  have h1 := write_num (D := D) (q := (a : Int)) (k := 4294967295) h.two.h1 h.two.s (by omega) (by omega)
  have h2 := parseV_lt ((D.write a (recP 4294967295)).at_ (D.write a (recP 4294967295)).now ((a : Int) + 1))
  unfold lastN
  rw [h1]
  omega
set_option maxHeartbeats 8000000 in
set_option maxRecDepth 100000 in
theorem c_awake8 (W : World) : Calls Try.prog 54 #[] W fun e w' => e = .returned (.bool true) ∧ Below W.heap.size W w' := by
  go_enter Try.func54, Try.ntmps54
  go_wp2_with fail
  refine (i_new 4 30 W (by decide) (by decide)).mono ?_
  rintro e w1 ⟨b, rfl, hI, hB⟩
  have hbt := bt_new 4 30 1 (by decide) (by decide) (by decide) (by decide)
  have ht : (dkNew 4 30).trace.length = 0 := rfl
  generalize dkNew 4 30 = D0 at *
  have hbt1 := hbt.bump (by decide)
  have ht1 := bump_trace D0 1
  rw [ht] at ht1
  have HB1 := Lib.hid (i_bump hI (by omega) 1 (by omega) 1 rfl 0 hbt (by decide) 1 rfl)
  clear hbt ht
  generalize (bumpW D0 1).flush = D1 at *
  have hbt2 := hbt1.bump (by decide)
  have ht2 := bump_trace D1 1
  rw [ht1] at ht2
  have HB2 : Hid (∀ w, In w W.heap.size b D1 (0 + 4) → _) := Lib.hid (fun w h => i_bump (W := w) h (by omega) 1 (by omega) 1 rfl 1 hbt1 (by decide) 2 rfl)
  clear hbt1 ht1
  generalize (bumpW D1 1).flush = D2 at *
  have hbt3 := bt_full hbt2
  have ht3 := writeT_length D2 ((1 : Nat) : Int) (recP 4294967295)
  rw [ht2] at ht3
  have hg2 := hbt2.fr.goes
  have HW : Hid (∀ w v, In w W.heap.size b D2 (0 + 4 + 4) → BytesAt w W.heap.size v (recP 4294967295) → _) := Lib.hid (fun w v h hv => i_write (W := w) h (by omega) hg2 1 v (recP 4294967295) (by decide) hv)
  have hq : (1 : Int) = ((1 : Nat) : Int) := rfl
  clear hbt2 ht2 hg2
  rw [show D2.write 1 (recP 4294967295) = D2.write ((1 : Nat) : Int) (recP 4294967295) from rfl] at HW
  generalize D2.write ((1 : Nat) : Int) (recP 4294967295) = D3 at *
  have hbt4 := hbt3.look
  have ht4 := look_trace D3 ((1 : Nat) : Int)
  rw [ht3] at ht4
  have HB3 : Hid (∀ w, In w W.heap.size b D3 (0 + 4 + 4 + 1) → _) := Lib.hid (fun w h => i_bumpFull (W := w) h (by omega) 1 (by omega) 1 rfl hbt3)
  clear hbt3 ht3
  generalize look D3 ((1 : Nat) : Int) = D4 at *
  have ht5 := look_trace D4 ((1 : Nat) : Int)
  rw [ht4] at ht5
  have HL : Hid (∀ w, In w W.heap.size b D4 (0 + 4 + 4 + 1 + 2) → _) := Lib.hid (fun w h => i_last (W := w) h (by omega) 1 (by omega) 1 rfl 4294967295 hbt4 4294967295 rfl)
  clear hbt4 ht4
  generalize look D4 ((1 : Nat) : Int) = D5 at *
  have HT5 := Lib.hid ht5
  clear ht5 hq
  have HR7 := Lib.hid (fun w => c_record 7 (by decide) w)
  have HRM := Lib.hid (fun w => c_record 4294967295 (by decide) w)
  go_wp2_with fail
  refine HB1.out.mono ?_
  rintro e w2 ⟨rfl, hI2, hd2⟩
  have hB2 := hB.trans hd2.below
  clear HB1 hI hB hd2
  have HX := Lib.hid (HB2.out _ hI2)
  go_wp2_with fail
  refine HX.out.mono ?_
  rintro e w3 ⟨rfl, hI3, hd3⟩
  have hB3 := hB2.trans hd3.below
  clear HX HB2 hI2 hB2 hd3
  go_wp2_with fail
  refine (HR7.out _).mono ?_
  rintro e w4 ⟨v4, rfl, ho4, hb4⟩
  have hI4 := hI3.below hb4
  have hB4 := hB3.trans (hb4.mono hI3.le)
  clear hI3 hb4 hB3 HR7
  obtain ⟨A4, c4, rfl, lc4, -, hr4⟩ := ho4.form
  have hp7 : parseN (recP 7) = some 7 := by have h := parse_rec (k := 7) (by decide) (by decide) 0; rwa [List.replicate_zero, List.append_nil] at h
  have HP7 := Lib.hid hp7
  have hl7 := recP_length 7
  rw [hl7] at hr4 lc4 ⊢
  clear hp7 hl7 ho4
  have HC7 := Lib.hid (c_parse A4 24 c4 (recP 7) w4 hr4 lc4 (by omega))
  go_wp2_with fail
  refine HC7.out.mono ?_
  rintro e w5 ⟨hp, hb5⟩
  unfold ParseRes at hp
  rw [HP7.out, parseV_of HP7.out] at hp
  subst hp
  have hI5 := hI4.below hb5
  have hB5 := hB4.trans (hb5.mono hI4.le)
  clear hI4 hb5 hB4 HC7 HP7 hr4 lc4
  go_wp2_with fail
  refine (HRM.out _).mono ?_
  rintro e w6 ⟨v6, rfl, ho6, hb6⟩
  have hI6 := hI5.below hb6
  have hB6 := hB5.trans (hb6.mono hI5.le)
  have HX := Lib.hid (HW.out _ _ hI6 (BytesAt.of_own ho6))
  clear hI5 hb6 hB5 HRM HW ho6
  go_wp2_with fail
  refine HX.out.mono ?_
  rintro e w7 ⟨rfl, hI7, hd7⟩
  have hB7 := hB6.trans hd7.below
  have HX2 := Lib.hid (HB3.out _ hI7)
  clear HX HB3 hI6 hI7 hB6 hd7
  go_wp2_with fail
  refine HX2.out.mono ?_
  rintro e w8 ⟨rfl, hI8, hd8⟩
  have hB8 := hB7.trans hd8.below
  have HX3 := Lib.hid (HL.out _ hI8)
  clear HX2 HL hI8 hB7 hd8
  go_wp2_with fail
  refine HX3.out.mono ?_
  rintro e w9 ⟨rfl, hI9, hd9⟩
  have hB9 := hB8.trans hd9.below
  clear HX3 hB8 hd9
  have HX4 := Lib.hid (i_trace hI9 (by omega))
  go_wp2_with fail
  refine HX4.out.mono ?_
  rintro e w10 ⟨vt, rfl, ht10, hI10, hb10⟩
  obtain ⟨ts9, -, -, ht11⟩ := ht10
  obtain ⟨A9, c9, rfl, -, -⟩ := own_form ht11
  rw [HT5.out]
  have hB10 := hB9.trans (hb10.mono hI9.le)
  clear HX4 ht11 hI9 hI10 hb10 hB9
  go_wp2
  exact ⟨rfl, .bool true, by simp [results, Try.results54], rfl, hB10⟩
end Go.Proofs.Ytlbpmboknmbcgaa
