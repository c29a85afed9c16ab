/- The walk of BankPlays. -/
import Derived.Test.YtmdmhjcdaejlkaaBPlaP
import Derived.Test.YtmdmhjcdaejlkaaStepArg
import Derived.Test.YtmdmhjcdaejlkaaBlank10
import Derived.Test.YtmdmhjcdaejlkaaMask
import Derived.Test.YtmdmhjcdaejlkaaInv
import Derived.Deep.CutRange
import Derived.Deep.CutBlock
set_option linter.unusedVariables false
set_option linter.unusedSimpArgs false
namespace Go.Proofs.Ytmdmhjcdaejlkaa
open Go.RowKit

/-- what the last comparison's operations tell -/
def gBP (gB : Nat) (vs : Value) (xs : List UInt8) : Nat → Value → World → Prop
  | 0, v, _ => v = .pointer (some ⟨gB, 0, none⟩)
  | 1, v, w => ∃ B, OwnB w B 5 v xs
  | 2, v, _ => v = .string (strB xs)
  | 3, v, _ => v = vs
  | 4, v, _ => v = .string (strB xs)
  | 5, v, _ => v = .bool false
  | 6, v, _ => v = .bool false
  | 14, v, _ => v = .bool false
  | _, _, _ => True
/-- what stands stays -/
def RBP (B : Nat) (a b : World) : Prop := B ≤ a.heap.size ∧ Below a.heap.size a b
theorem gBP_st {gB : Nat} {vs : Value} {xs : List UInt8} {j : Nat} {v : Value} {a b : World} (h : Below a.heap.size a b) (hG : gBP gB vs xs j v a) : gBP gB vs xs j v b := by
  unfold gBP at hG ⊢
  split at hG <;> try exact hG
  obtain ⟨B, hB⟩ := hG
  exact ⟨B, hB.below h⟩
theorem at_len60 {D : Dk} (h : D.size = ((60 : Nat) : Int)) (q : Int) : (D.at_ D.now q).length ≤ 60 := by
  cases hq : D.has q with
  | false => rw [at_not hq]; decide
  | true => rw [at_yes hq, h, fitL_length]; decide
theorem openL_lenB {key b x : List UInt8} (h : openL key b = some x) : x.length ≤ b.length := by
  unfold openL at h
  split at h
  · have := (unpadL_some h).2
    omega
  · cases h
theorem Bk.mono {W : World} {base b n n' g boot seq gB gp at_ : Nat} {D : Dk} {key : List UInt8} {l : List (Bool × Bool)} (h : Bk W base b n D g key boot seq gB gp at_ l) (hn : n ≤ n') : Bk W base b n' D g key boot seq gB gp at_ l :=
  ⟨⟨h.i.dk, h.i.le, h.i.bd.mono hn⟩, h.p, h.k, h.hg, h.hgp⟩
set_option maxHeartbeats 16000000 in
set_option maxRecDepth 100000 in
theorem w_bpla0 (key : List UInt8) (hk : key.length = 32) (x0 : Int) (A0 : Option Addr) (l0 c0 : Nat) (ss : List (Int × Int × List UInt8)) (w : World) (hS : StepsAt w A0 l0 ss) :
    Calls Try.prog 12 #[.agg (bv key).toArray, .int .i64 x0, .slice A0 l0 c0] w fun e w' => e = .returned (.bool true) ∧ Below w.heap.size w w' := by
  have HK := Lib.hid hk
  have HS := Lib.hid hS
  have hm := m7 x0
  obtain ⟨n7, hn⟩ : ∃ n : Nat, x0 % 8 = (n : Int) := ⟨(x0 % 8).toNat, by omega⟩
  obtain ⟨n, hn1⟩ : ∃ n, n7 + 1 = n := ⟨_, rfl⟩
  have hn8 : n ≤ 8 := by omega
  have hn0 : 1 ≤ n := by omega
  have hw1 : IntKind.i64.wrap ((n7 : Int) + 1) = (n : Int) := by rw [show (n7 : Int) + 1 = (n : Int) by omega]; exact IntWalk.i64_in _ (by omega)
  rw [hn] at hm
  clear hn hn1 hk hS
  have r0 := Row.new w (bv key).toArray 22
  have hB0 := below_alloc (Below.refl w.heap.size w) (.cells (bv key).toArray 22)
  have hlB : w.heap.size < (w.alloc (.cells (bv key).toArray 22)).heap.size := by simp
  go_enter Try.func12, Try.ntmps12
  go_upto_region 2 with fail
  generalize w.alloc (.cells (bv key).toArray 22) = w0 at *
  generalize hBs : w0.heap.size = bs at *
  have HNW := Lib.hid (i_new 20 60 w0 (by decide) (by decide))
  rw [hBs] at HNW
  clear hBs
  go_upto_region 3 with (go_at_call 17; (with_reducible refine HNW.out.mono ?_); rintro e w1 ⟨b, rfl, hI, hb1⟩)
  have r1 := r0.below hb1 (by omega)
  have hB1 := hB0.trans (hb1.mono (Nat.le_of_lt hlB))
  have hn1 := p_new b key HK.out 1 (by decide) w1
  simp only [show ((1 : Nat) : Int) = 1 from rfl] at hn1
  have HN1 := Lib.hid hn1
  clear hn1 HNW hb1 r0 hB0
  go_upto_region 4 with (first | (first | (apply wpl_loadS (ty := 22); rfl; rfl; rfl; kernel_rfl; exact r1; (simp only [List.size_toArray, bv_length, HK.out]; kernel_rfl); simp only [Act.put, List.setIfInBounds_toArray, List.set_cons_zero, List.set_cons_succ])) | (go_at_call 18; (with_reducible refine HN1.out.mono ?_); rintro e w2 ⟨g, rfl, hP, hg, hb2⟩))
  have hgb : bs ≤ g := Nat.le_trans hI.le hg
  have hI2 := hI.below hb2
  have r2 := r1.below hb2 r1.lt
  have hB2 := below_two hB1 hb2
  have hbn := c_bkNew g 1 n (by omega) w2
  simp only [show ((1 : Nat) : Int) = 1 from rfl] at hbn
  have HBN := Lib.hid hbn
  clear HN1 hI r1 hB1 hb2 hg hbn
  go_upto_region 7 with (go_at_call 49; (with_reducible refine HBN.out.mono ?_); rintro e w3 ⟨gB, gp, rfl, hK3, hgB, hgp, hb3⟩)
  have k3 : Bk w3 bs b 0 (dkNew 20 60) g key 1 0 gB gp 1 (List.replicate n (true, false)) := ⟨hI2.below hb3, hP.below hb3 hP.lt, hK3, hgb, Nat.le_trans hI2.le hgp⟩
  have r3 := r2.below hb3 r2.lt
  have hB3 := below_two hB2 hb3
  clear HBN hI2 hP hK3 hgB hgp hb3 hB2 hgb r2
  obtain ⟨bo, hbo⟩ : ∃ bo, (openL key (List.replicate 60 0)).isSome = bo := ⟨_, rfl⟩
  have HBK := Lib.hid (c_blank10 key HK.out 60 (by decide) 60 rfl bo hbo w3)
  have HBO := Lib.hid hbo
  clear hbo
  cases bo with
  | true =>
    go_upto_region 8 with (first | (first | (apply wpl_loadS (ty := 22); rfl; rfl; rfl; kernel_rfl; exact r3; (simp only [List.size_toArray, bv_length, HK.out]; kernel_rfl); simp only [Act.put, List.setIfInBounds_toArray, List.set_cons_zero, List.set_cons_succ])) | (go_at_call 30; (with_reducible refine HBK.out.mono ?_); rintro e w4 ⟨rfl, hb4⟩))
    have hB4 := below_two hB3 hb4
    clear HBK r3 k3 hB3 hb4 HBO
    go_wp2_with (go_at_call 50; (with_reducible refine (c_awake12 _).mono ?_); rintro e w5 ⟨rfl, hb5⟩)
    go_ret
    exact ⟨rfl, below_two hB4 hb5⟩
  | false =>
    have hbn : openL key (List.replicate 60 0) = none := by
      have hbo := HBO.out
      cases h : openL key (List.replicate 60 0) with
      | none => rfl
      | some x => rw [h] at hbo; cases hbo
    have HBP := Lib.hid (Bp.new hbn n)
    clear HBO hbn
    generalize dkNew 20 60 = D0 at *
    have hll : (List.replicate n (true, false)).length = n := List.length_replicate
    generalize List.replicate n (true, false) = l at *
    obtain ⟨zr, hzr, hmk⟩ := run_mkSt n (by omega)
    rw [← strO_rep] at hzr
    generalize List.replicate n none = no at *
    go_upto_region 9 with (first | (first | (apply wpl_loadS (ty := 22); rfl; rfl; rfl; kernel_rfl; exact r3; (simp only [List.size_toArray, bv_length, HK.out]; kernel_rfl); simp only [Act.put, List.setIfInBounds_toArray, List.set_cons_zero, List.set_cons_succ])) | (go_at_call 30; (with_reducible refine HBK.out.mono ?_); rintro e w4 ⟨rfl, hb4⟩))
    have k4 := k3.up hb4
    have hB4 := below_two hB3 hb4
    clear HBK r3 k3 hB3 hb4
    go_cut [10, 11] from 43 to 46 (fun s10 s11 wx => ∃ gn gw, s10 = .slice (some ⟨gn, 0, none⟩) n n ∧ s11 = .slice (some ⟨gw, 0, none⟩) n n ∧ Bk wx bs b 0 D0 g key 1 0 gB gp 1 l ∧ So wx bs gn gw no no ∧ Below w.heap.size w wx)
    case first =>
      have hba : Below w4.heap.size w4 ((w4.alloc (.cells zr 9)).alloc (.cells zr 9)).drew := below_drew (((Below.refl w4.heap.size w4).alloc (Nat.le_refl _) _).alloc (by simp) _)
      have ra : Row ((w4.alloc (.cells zr 9)).alloc (.cells zr 9)).drew w4.heap.size zr 9 := Row.alloc (Row.new w4 zr 9) (.cells zr 9)
      have rb : Row ((w4.alloc (.cells zr 9)).alloc (.cells zr 9)).drew (w4.heap.size + 1) zr 9 := by
        have := Row.new (w4.alloc (.cells zr 9)) zr 9
        rw [show (w4.alloc (.cells zr 9)).heap.size = w4.heap.size + 1 by simp] at this
        exact this
      have hbs := k4.i.le
      obtain ⟨w5, hw5⟩ : ∃ w5, ((w4.alloc (.cells zr 9)).alloc (.cells zr 9)).drew = w5 := ⟨_, rfl⟩
      rw [hw5] at hba ra rb
      have HW5 := Lib.hid hw5
      have ra1 : Row w5 w4.heap.size _ _ := hzr ▸ ra
      have rb1 : Row w5 (w4.heap.size + 1) _ _ := hzr ▸ rb
      have HB1 := Lib.hid (And.intro (k4.up hba) (And.intro (So.mk (base := bs) (gn := w4.heap.size) (gw := w4.heap.size + 1) ra1 rb1 (by omega) hbs (by omega)) (below_two hB4 hba)))
      have HB2 := Lib.hid (And.intro (k4.up hba) (And.intro (So.mk (base := bs) (gn := w4.heap.size + 1) (gw := w4.heap.size) rb1 ra1 (by omega) (by omega) hbs) (below_two hB4 hba)))
      clear hba ra rb ra1 rb1 hw5 hbs k4 hB4 hzr
      (refine wp_region_linN (Below w4.heap.size) (Below w4.heap.size) (wayB _) (wayB _) (fun _ _ h => h) (.free 0 (.free 2 (.two 1 [] [] [] (.free 4 (.op 3 [] [] [] (.free 5 .nil))) 3 [] [] [] (.op 1 [] [] [] (.free 4 (.free 5 .nil)))))) rfl (by kernel_rfl) (by kernel_rfl) (fun _ _ _ _ _ h => h) ?_; (first | (apply linN_free; (simp only [List.getElem?_toArray, List.getElem?_cons_succ, List.getElem?_cons_zero]; rfl); (rfl); (intro w'; (first | (go_simp; done) | (go_simp; with_reducible rfl) | (go_simp; go_bits; with_reducible rfl) | (go_simp; go_bits; done))); try simp only [Act.put, List.setIfInBounds_toArray, List.set_cons_zero, List.set_cons_succ]) | (apply linN_freeSkip; (simp only [List.getElem?_toArray, List.getElem?_cons_succ, List.getElem?_cons_zero]; rfl); (rfl); try simp only [Act.put, List.setIfInBounds_toArray, List.set_cons_zero, List.set_cons_succ])); (first | (apply linN_free; (simp only [List.getElem?_toArray, List.getElem?_cons_succ, List.getElem?_cons_zero]; rfl); (rfl); (intro w'; (first | (go_simp; done) | (go_simp; with_reducible rfl) | (go_simp; go_bits; with_reducible rfl) | (go_simp; go_bits; done))); try simp only [Act.put, List.setIfInBounds_toArray, List.set_cons_zero, List.set_cons_succ]) | (apply linN_freeSkip; (simp only [List.getElem?_toArray, List.getElem?_cons_succ, List.getElem?_cons_zero]; rfl); (rfl); try simp only [Act.put, List.setIfInBounds_toArray, List.set_cons_zero, List.set_cons_succ])); refine linN_two ?_ ?_; (focus ((first | (apply passN; (simp only [List.getElem?_toArray, List.getElem?_cons_succ, List.getElem?_cons_zero]; rfl); (rfl); (exact trivial); try simp only [Act.put, List.setIfInBounds_toArray, List.set_cons_zero, List.set_cons_succ]) | (apply opN; (simp only [List.getElem?_toArray, List.getElem?_cons_succ, List.getElem?_cons_zero]; rfl); (rfl); intro K hK; (first | (go_simp; (first | skip))); refine hK _ _ ?_ ?_; (exact trivial); clear hK; try simp only [Act.put, List.setIfInBounds_toArray, List.set_cons_zero, List.set_cons_succ])); (first | (apply linN_free; (simp only [List.getElem?_toArray, List.getElem?_cons_succ, List.getElem?_cons_zero]; rfl); (rfl); (intro w'; (first | (go_simp; done) | (go_simp; with_reducible rfl) | (go_simp; go_bits; with_reducible rfl) | (go_simp; go_bits; done))); try simp only [Act.put, List.setIfInBounds_toArray, List.set_cons_zero, List.set_cons_succ]) | (apply linN_freeSkip; (simp only [List.getElem?_toArray, List.getElem?_cons_succ, List.getElem?_cons_zero]; rfl); (rfl); try simp only [Act.put, List.setIfInBounds_toArray, List.set_cons_zero, List.set_cons_succ])); (first | (apply linN_pass (wayB _) (wayB _); (simp only [List.getElem?_toArray, List.getElem?_cons_succ, List.getElem?_cons_zero]; rfl); (rfl); try simp only [Act.put, List.setIfInBounds_toArray, List.set_cons_zero, List.set_cons_succ]) | (apply linN_op; (simp only [List.getElem?_toArray, List.getElem?_cons_succ, List.getElem?_cons_zero]; rfl); (rfl); intro K hK; (first | (go_simp; (first | skip))); refine hK _ _ ?_ ?_; (exact trivial); clear hK; try simp only [Act.put, List.setIfInBounds_toArray, List.set_cons_zero, List.set_cons_succ])); (first | (apply linN_free; (simp only [List.getElem?_toArray, List.getElem?_cons_succ, List.getElem?_cons_zero]; rfl); (rfl); (intro w'; (first | (go_simp; done) | (go_simp; with_reducible rfl) | (go_simp; go_bits; with_reducible rfl) | (go_simp; go_bits; done))); try simp only [Act.put, List.setIfInBounds_toArray, List.set_cons_zero, List.set_cons_succ]) | (apply linN_freeSkip; (simp only [List.getElem?_toArray, List.getElem?_cons_succ, List.getElem?_cons_zero]; rfl); (rfl); try simp only [Act.put, List.setIfInBounds_toArray, List.set_cons_zero, List.set_cons_succ])); refine linN_end ?_)); rotate_left 1; (focus ((first | (apply passN; (simp only [List.getElem?_toArray, List.getElem?_cons_succ, List.getElem?_cons_zero]; rfl); (rfl); (exact trivial); try simp only [Act.put, List.setIfInBounds_toArray, List.set_cons_zero, List.set_cons_succ]) | (apply opN; (simp only [List.getElem?_toArray, List.getElem?_cons_succ, List.getElem?_cons_zero]; rfl); (rfl); intro K hK; (first | (go_simp; (first | skip))); refine hK _ _ ?_ ?_; (exact trivial); clear hK; try simp only [Act.put, List.setIfInBounds_toArray, List.set_cons_zero, List.set_cons_succ])); (first | (apply linN_pass (wayB _) (wayB _); (simp only [List.getElem?_toArray, List.getElem?_cons_succ, List.getElem?_cons_zero]; rfl); (rfl); try simp only [Act.put, List.setIfInBounds_toArray, List.set_cons_zero, List.set_cons_succ]) | (apply linN_op; (simp only [List.getElem?_toArray, List.getElem?_cons_succ, List.getElem?_cons_zero]; rfl); (rfl); intro K hK; (first | (go_simp; (first | skip))); refine hK _ _ ?_ ?_; (exact trivial); clear hK; try simp only [Act.put, List.setIfInBounds_toArray, List.set_cons_zero, List.set_cons_succ])); (first | (apply linN_free; (simp only [List.getElem?_toArray, List.getElem?_cons_succ, List.getElem?_cons_zero]; rfl); (rfl); (intro w'; (first | (go_simp; done) | (go_simp; with_reducible rfl) | (go_simp; go_bits; with_reducible rfl) | (go_simp; go_bits; done))); try simp only [Act.put, List.setIfInBounds_toArray, List.set_cons_zero, List.set_cons_succ]) | (apply linN_freeSkip; (simp only [List.getElem?_toArray, List.getElem?_cons_succ, List.getElem?_cons_zero]; rfl); (rfl); try simp only [Act.put, List.setIfInBounds_toArray, List.set_cons_zero, List.set_cons_succ])); (first | (apply linN_free; (simp only [List.getElem?_toArray, List.getElem?_cons_succ, List.getElem?_cons_zero]; rfl); (rfl); (intro w'; (first | (go_simp; done) | (go_simp; with_reducible rfl) | (go_simp; go_bits; with_reducible rfl) | (go_simp; go_bits; done))); try simp only [Act.put, List.setIfInBounds_toArray, List.set_cons_zero, List.set_cons_succ]) | (apply linN_freeSkip; (simp only [List.getElem?_toArray, List.getElem?_cons_succ, List.getElem?_cons_zero]; rfl); (rfl); try simp only [Act.put, List.setIfInBounds_toArray, List.set_cons_zero, List.set_cons_succ])); refine linN_end ?_)); rotate_right 1)
      all_goals
        rw [HW5.out]
        clear HW5 hmk
        generalize w4.heap.size = q4 at *
        go_wp2
        go_meet
        case rel => first | exact ⟨_, _, rfl, rfl, HB1.out⟩ | exact ⟨_, _, rfl, rfl, HB2.out⟩
    case rest =>
      obtain ⟨gn, gw, rfl, rfl, k5, o5, hB5⟩ := hcut
      clear k4 hB4 hmk hzr
      have HA := Lib.hid (b_state k5 (by omega))
      go_upto_region 11 with (go_at_call 51; (with_reducible refine HA.out.mono ?_); rintro e w6 ⟨vs, rfl, os6, k6, hb6⟩)
      have o6 := o5.up hb6
      have hB6 := below_two hB5 hb6
      have hbs6 := k5.i.le
      clear HA k5 o5 hB5 hb6
      go_wp2_with fail
      go_wp2_with fail
      go_loopw [9, 12, 13] (fun s9 s12 s13 wr => ∃ (i seq : Nat) (D : Dk) (l : List (Bool × Bool)) (now was : List (Option (List UInt8))) (gB gp : Nat), i ≤ 40 ∧ seq ≤ i ∧ s9 = .pointer (some ⟨gB, 0, none⟩) ∧ s13 = .int .i64 (i : Int) ∧ Bk wr bs b (20 * i) D g key 1 seq gB gp 1 l ∧ So wr bs gn gw now was ∧ OwnB wr bs 5 s12 (stL l) ∧ Bp key D l now was n ∧ Below w.heap.size w wr) (fun _ _ s13 _ => (40 - intOf s13).toNat)
      case atStart => exact ⟨0, 0, D0, l, no, no, gB, gp, by omega, by omega, rfl, rfl, k6, o6, os6.mono hbs6, HBP.out, hB6⟩
      case round =>
        clear k6 o6 os6 hB6 HBP hbs6 hll
        obtain ⟨i, seq, D, l, now, was, gB, gp, hi, hq, rfl, rfl, kr, or_, osr, hP, hBr⟩ := hrel
        by_cases hend : (i : Int) < (l0 : Int) ∧ (i : Int) < 40
        · obtain ⟨q0, q1⟩ := hend
          obtain ⟨⟨kd, at_, xs⟩, hss⟩ : ∃ x, ss[i]? = some x := ⟨_, List.getElem?_eq_getElem (by have := HS.out.1; omega)⟩
          obtain ⟨sb, so, A, cx, rfl, e0, e1, e2, hRx⟩ := HS.out.2 i kd at_ xs hss
          have hsb : sb < w.heap.size := World.block_lt_of_cell? w _ e0
          have f0 : wr.cell? ⟨sb, so + i * 3, none⟩ = some (.int .i64 kd) := (hBr.cell hsb).trans e0
          have f1 : wr.cell? ⟨sb, so + i * 3 + 1, none⟩ = some (.int .i64 at_) := (hBr.cell hsb).trans e1
          obtain ⟨c, hc⟩ : ∃ c, (at_ % 256).toNat % n = c := ⟨_, rfl⟩
          have hcn : c < n := by rw [← hc]; exact Nat.mod_lt _ (by omega)
          have e255 := m255 at_
          have hrem : IntKind.i64.wrap ((at_ % 256).tmod (n : Int)) = (c : Int) := by
            rw [Int.tmod_eq_emod_of_nonneg (by omega), show at_ % 256 = ((at_ % 256).toNat : Int) by omega, ← Int.natCast_emod, hc]
            exact IntWalk.i64_in _ (by omega)
          have hrem2 : at_ % 256 % (n : Int) = (c : Int) := by
            rw [show at_ % 256 = ((at_ % 256).toNat : Int) by omega, ← Int.natCast_emod, hc]
          have hn00 : ¬ (n : Int) = 0 := by omega
          obtain ⟨q, hqd⟩ : ∃ q, kd % 8 = q := ⟨_, rfl⟩
          have eq7 := m7 kd
          rw [hqd] at eq7
          have hq8 : 0 ≤ q ∧ q < 8 := by omega
          clear hss hc e0 e1
          have HE2 := Lib.hid (And.intro e2 (And.intro hRx hqd))
          clear e2 hRx hqd
          go_upto_block 2 with fail
          rw [hrem2]
          go_cut [9, 12] from 73 to 129 (fun s9 s12 wx => ∃ (seq' : Nat) (D' : Dk) (l' : List (Bool × Bool)) (now' was' : List (Option (List UInt8))) (gB' gp' : Nat), seq' ≤ i + 1 ∧ s9 = .pointer (some ⟨gB', 0, none⟩) ∧ Bk wx bs b (20 * i + 2) D' g key 1 seq' gB' gp' 1 l' ∧ So wx bs gn gw now' was' ∧ OwnB wx bs 5 s12 (stL l') ∧ Bp key D' l' now' was' n ∧ Below w.heap.size w wx)
          case first =>
            have kr1 : Bk wr bs b (20 * i + 1) D g key 1 seq gB gp 1 l := ⟨⟨kr.i.dk, kr.i.le, kr.i.bd.mono (by omega)⟩, kr.p, kr.k, kr.hg, kr.hgp⟩
            clear f0 f1 e255 hrem hrem2 hn00 eq7
            rcases (show (q = 0 ∨ q = 4 ∨ q = 5) ∨ q = 1 ∨ q = 2 ∨ q = 3 ∨ q = 6 ∨ q = 7 by omega) with hqw | rfl | rfl | hqn
            · -- writes
              obtain ⟨⟨s, f⟩, hsf⟩ : ∃ p, l[c]? = some p := ⟨_, List.getElem?_eq_getElem (by have := hP.ll; omega)⟩
              have f2 : wr.cell? ⟨sb, so + i * 3 + 2, none⟩ = some (.slice A xs.length cx) := (hBr.cell hsb).trans HE2.out.1
              have hRx : RdB wr A xs.length xs := HE2.out.2.1.below hBr (Nat.le_refl _)
              obtain ⟨m, hm⟩ : ∃ m, xs.length = m := ⟨_, rfl⟩
              have HWR := fun r hr => Lib.hid (b_write kr1 (by omega) hP.fr.goes c s f hsf (by omega) (by decide) A m cx xs (hm ▸ hRx) (by omega) r hr)
              have hfit : fitsB m D.size = decide (m ≤ 38) := by
                rw [hP.sz]; unfold fitsB
                by_cases h : m ≤ 38
                · simp [h]; omega
                · simp [h]; omega
              rw [hm] at f2
              by_cases h38 : m ≤ 38
              · have HA := HWR true (by rw [hfit]; exact decide_eq_true h38)
                have h38i : (m : Int) ≤ 38 := by omega
                simp only [if_true, hP.sz, show ((60 : Nat) : Int).toNat = 60 from rfl] at HA
                have hPw := hP.write hn8 hsf (xs := xs) (seq := seq) (by omega) (by omega)
                have hstw := stL_write l hsf
                have hnc : now[c]? = some (now[c]?.getD none) := by
                  have : c < now.length := by rw [hP.nl]; exact hcn
                  rw [List.getElem?_eq_getElem this]; rfl
                have HPW := Lib.hid (And.intro hPw (And.intro hstw hnc))
                have HMX := Lib.hid hm
                have hsz : (strB xs).size = m := by unfold strB; simpa [ByteArray.size] using hm
                have hbg : ¬ 9223372036854775807 < 1 + m := by omega
                clear HWR hfit hsf hRx hPw hstw hnc hm
                generalize D.write ((blkN 1 c (!s) : Nat) : Int) (sealL key 1 seq xs 60) = D2 at *
                rcases hqw with rfl | rfl | rfl
                all_goals
                  go_upto_region 20 with (go_at_call 52; (with_reducible refine HA.out.mono ?_); rintro e w5 ⟨rfl, k5, hx5⟩)
                  have o5 := or_.px kr1 hx5
                  have os5 := osr.pxB hx5 kr1.foreign
                  have hB5 := hBr.trans (hx5.1.mono (Nat.le_of_lt hlB))
                  have f5 : w5.cell? ⟨sb, so + i * 3 + 2, none⟩ = some (.slice A m cx) := ((hx5.1.mono (Nat.le_of_lt hlB)).cell hsb).trans f2
                  have hR5 : RdB w5 A m xs := HMX.out ▸ HE2.out.2.1.below hB5 (Nat.le_refl _)
                  have hcv := conv_rd (c := cx) hR5
                  have p5 := o5.c1 HPW.out.2.2
                  have z5 : w5.frozen? ⟨gn, c, none⟩ = false := o5.n.free c
                  have HF := Lib.hid (And.intro (k5.updS o5.n (upd_cell (j := c) o5.n (.string (encS (some xs)))) o5.hn) (And.intro (o5.set c (some xs)) (And.intro (HPW.out.2.1.symm ▸ os5.updS o5.n (upd_cell (j := c) o5.n (.string (encS (some xs))))) (And.intro HPW.out.1 (hB5.trans (Below.setCell (Below.refl w.heap.size w5) (show w.heap.size ≤ (⟨gn, c, none⟩ : Addr).block from Nat.le_trans (Nat.le_of_lt hlB) o5.hn) (.string (encS (some xs)))))))))
                  clear HA kr kr1 or_ osr hBr hx5 k5 o5 os5 hB5 hR5 f2 hP
                  go_wp2_with fail
                  go_meet
                  case rel => exact ⟨seq + 1, D2, _, _, was, gB, gp, by omega, rfl, HF.out⟩
              · have HA := HWR false (by rw [hfit]; exact decide_eq_false h38)
                have h38i : ¬ (m : Int) ≤ 38 := by omega
                simp only [Bool.false_eq_true, if_false] at HA
                clear HWR hfit hsf hRx hm
                rcases hqw with rfl | rfl | rfl
                all_goals
                  go_upto_region 20 with (go_at_call 52; (with_reducible refine HA.out.mono ?_); rintro e w5 ⟨rfl, k5, hx5⟩)
                  have o5 := or_.px kr1 hx5
                  have os5 := osr.pxB hx5 kr1.foreign
                  have hB5 := hBr.trans (hx5.1.mono (Nat.le_of_lt hlB))
                  have f5 : w5.cell? ⟨sb, so + i * 3 + 2, none⟩ = some (.slice A m cx) := ((hx5.1.mono (Nat.le_of_lt hlB)).cell hsb).trans f2
                  have HF := Lib.hid (And.intro k5 (And.intro o5 (And.intro os5 (And.intro hP hB5))))
                  clear HA kr kr1 or_ osr hBr hx5 k5 o5 os5 hB5 f2 hP
                  go_wp2_with fail
                  go_meet
                  case rel => exact ⟨seq, D, l, now, was, gB, gp, by omega, rfl, HF.out⟩
            · -- commits
              have HA := Lib.hid (b_commit kr (by have := hP.ll; omega))
              go_wp2_with fail
              refine HA.out.mono ?_
              rintro e w5 ⟨rfl, k5, hx5⟩
              have o5 := or_.px kr hx5
              have hB5 := hBr.trans (hx5.1.mono (Nat.le_of_lt hlB))
              have hP5 := hP.commit
              have hwl := hP.wl
              have hll5 := hP5.ll
              clear HA kr or_ osr hBr hx5 hP kr1
              generalize l.map cmP = lc at *
              have HA := Lib.hid (b_state k5 (by omega))
              go_wp2_with fail
              refine HA.out.mono ?_
              rintro e w6 ⟨vs, rfl, os6, k6, hb6⟩
              have o6 := o5.up hb6
              have hB6 := below_two hB5 hb6
              have hbs6 := k5.i.le
              clear HA k5 o5 hB5 hb6
              go_wp2_with (refine wpl_cpS rfl rfl rfl rfl o6.w o6.n hwl hP5.nl ?_; intro w7 hu7; (have hF := Lib.hid (And.intro (k6.updS o6.w hu7 o6.hw) (And.intro (o6.cpW hu7) (And.intro ((os6.mono hbs6).updS o6.w hu7) (And.intro hP5 (hB6.trans (hu7.below (Nat.le_trans (Nat.le_of_lt hlB) o6.hw))))))); clear k6 o6 os6 hP5 hB6 hu7 hwl hbs6; simp only [Act.put, List.setIfInBounds_toArray, List.set_cons_zero, List.set_cons_succ]))
              go_meet
              case rel =>
                obtain ⟨hk7, h7⟩ := hF.out
                exact ⟨seq, D, lc, now, now, gB, gp, by omega, rfl, hk7.mono (by omega), h7⟩
            · -- goes back
              have hPl := hP.load
              have hnl := hP.nl
              have hll := hP.ll
              have hok := ok_st l
              have hld := ld_st l
              rw [hll] at hok hld
              obtain ⟨As, cs, rfl, lcs, -, -⟩ := osr.form
              have hbn := c_bkNew g 1 n (by omega) wr
              simp only [show ((1 : Nat) : Int) = 1 from rfl] at hbn
              have HBN := Lib.hid hbn
              have HOK := Lib.hid (And.intro hok hld)
              clear kr hok hld hbn
              go_wp2_with fail
              refine HBN.out.mono ?_
              rintro e w5 ⟨gB5, gp5, rfl, hK5, hgB5, hgp5, hb5⟩
              have k5 : Bk w5 bs b (20 * i + 1) D g key 1 seq gB5 gp5 1 (List.replicate n (true, false)) := ⟨kr1.i.below hb5, kr1.p.below hb5 kr1.p.lt, hK5, kr1.hg, Nat.le_trans kr1.i.le hgp5⟩
              have o5 := or_.up hb5
              have os5 := osr.below hb5
              have hB5 := below_two hBr hb5
              have hsl : (stL l).length = (n + 7) / 8 := by rw [stL_length, hll]
              clear HBN kr1 or_ osr hBr hK5 hgB5 hgp5 hb5
              have HA := Lib.hid (b_load k5 (by simp; omega) As ((n + 7) / 8) cs _ (stL l) (hsl ▸ os5) hsl (by omega) (by rw [List.length_replicate]; exact HOK.out.1))
              rw [List.length_replicate, HOK.out.2] at HA
              go_upto_region 32 with (go_at_call 54; (with_reducible refine HA.out.mono ?_); rintro e w6 ⟨rfl, k6, hx6⟩; (have o6 := o5.px k5 hx6; have os6 := os5.pxB hx6 k5.foreign; have hB6 := hB5.trans (hx6.1.mono (Nat.le_of_lt hlB)); clear HA k5 o5 os5 hB5 hx6))
              rw [← stL_load l] at os6
              have hs6 : (stL (l.map fun p => (p.1, false))).length = (n + 7) / 8 := by rw [stL_load]; exact hsl
              rw [hs6] at os6
              have hwl := hPl.wl
              generalize (l.map fun p => (p.1, false)) = lc at *
              go_wp2_with (refine wpl_cpS rfl rfl rfl rfl o6.n o6.w hnl hwl ?_; intro w7 hu7; (have hF := Lib.hid (And.intro (k6.updS o6.n hu7 o6.hn) (And.intro (o6.cpN hu7) (And.intro (os6.updS o6.n hu7) (And.intro hPl (hB6.trans (hu7.below (Nat.le_trans (Nat.le_of_lt hlB) o6.hn))))))); clear k6 o6 os6 hPl hB6 hu7; simp only [Act.put, List.setIfInBounds_toArray, List.set_cons_zero, List.set_cons_succ]))
              go_meet
              case rel => exact ⟨seq, D, lc, was, was, gB5, gp5, by omega, rfl, hF.out.1.mono (by omega), hF.out.2⟩
            · -- none
              rcases hqn with rfl | rfl | rfl
              all_goals
                have HR := Lib.hid (And.intro (kr1.mono (Nat.le_succ _)) (And.intro or_ (And.intro osr (And.intro hP hBr))))
                clear kr kr1 or_ osr hP hBr
                go_wp2_with fail
                go_meet
                case rel => exact ⟨seq, D, l, now, was, gB, gp, by omega, rfl, HR.out⟩
          case rest =>
            obtain ⟨seq', D', l', now', was', gB', gp', hq', rfl, k7, o7, os7, hP7, hB7⟩ := hcut
            clear kr or_ osr hP hBr f0 f1 e255 hrem hrem2 hn00 eq7 HE2 hq
            go_wp2_with fail
            go_loopw [16] (fun s16 wr => ∃ (j : Nat) (iv : Int) (D : Dk), j ≤ n + 2 ∧ iv = (j : Int) - 1 ∧ s16 = .int .i64 iv ∧ Bk wr bs b (20 * i + 2 + j) D g key 1 seq' gB' gp' 1 l' ∧ So wr bs gn gw now' was' ∧ OwnB wr bs 5 u12 (stL l') ∧ Bp key D l' now' was' n ∧ Below w.heap.size w wr) (fun s16 _ => (n + 1 - intOf s16).toNat)
            case atStart => exact ⟨0, -1, D', by omega, rfl, rfl, k7, o7, os7, hP7, hB7⟩
            case round =>
              clear k7 o7 os7 hP7 hB7
              obtain ⟨j, iv, D, hj, hiv, rfl, kr, or_, osr, hP, hBr⟩ := hrel
              have hwv : IntKind.i64.wrap (iv + 1) = iv + 1 := IntWalk.i64_in _ (by omega)
              have hj2 : iv ≤ (n : Int) → j + 1 ≤ n + 2 := by omega
              have hJ := Lib.hid (And.intro hiv hj2)
              have HJ3 := Lib.hid hj
              clear hiv hj hj2
              by_cases hin : iv ≤ (n : Int)
              · by_cases h0 : 0 ≤ iv
                · by_cases h1 : iv < (n : Int)
                  · obtain ⟨q2, rfl⟩ : ∃ q : Nat, iv = (q : Int) := ⟨iv.toNat, by omega⟩
                    obtain ⟨⟨s, f⟩, hsf⟩ : ∃ p, l'[q2]? = some p := ⟨_, List.getElem?_eq_getElem (by have := hP.ll; omega)⟩
                    have hnq := hP.hn q2 s f hsf
                    have hlen := at_len60 hP.sz ((blkN 1 q2 (s != f) : Nat) : Int)
                    have HA := Lib.hid (b_read kr (by have := hJ.out.2 hin; omega) hP.fr.goes q2 s f hsf (by omega) (by decide))
                    have hPr := hP.read ((blkN 1 q2 (s != f) : Nat) : Int)
                    have HPR := Lib.hid hPr
                    clear hsf hPr
                    generalize D.at_ D.now ((blkN 1 q2 (s != f) : Nat) : Int) = bk at *
                    cases ho : openL key bk with
                    | none =>
                      rw [ho] at hnq
                      rw [ho, opP_none ho] at HA
                      simp only [Option.isSome] at HA
                      go_upto_region 37 with (go_at_call 55; (with_reducible refine HA.out.mono ?_); rintro e w8 ⟨v8, rfl, own8, k8, hx8⟩)
                      have o8 := or_.px kr hx8
                      have os8 := osr.pxB hx8 kr.foreign
                      have hB8 := hBr.trans (hx8.1.mono (Nat.le_of_lt hlB))
                      have p8 : w8.cell? ⟨gn, q2, none⟩ = some (.string ⟨#[]⟩) := o8.c1 hnq
                      have HR := Lib.hid (And.intro k8 (And.intro o8 (And.intro os8 (And.intro HPR.out hB8))))
                      clear HA HPR kr or_ osr hP hBr hx8 own8 k8 o8 os8 hB8 hlen ho hnq
                      go_wp2_with fail
                      go_roundw
                      case rel => exact ⟨j + 1, (q2 : Int) + 1, _, hJ.out.2 hin, by have := hJ.out.1; omega, rfl, HR.out.1.mono (by omega), HR.out.2⟩
                      case measure => simp [intOf]; omega
                    | some xs =>
                      rw [ho] at hnq
                      have hxl := Nat.le_trans (openL_lenB ho) hlen
                      rw [ho, opP_some ho] at HA
                      simp only [Option.isSome] at HA
                      go_upto_region 37 with (go_at_call 55; (with_reducible refine HA.out.mono ?_); rintro e w8 ⟨v8, rfl, own8, k8, hx8⟩)
                      have o8 := or_.px kr hx8
                      have os8 := osr.pxB hx8 kr.foreign
                      have hB8 := hBr.trans (hx8.1.mono (Nat.le_of_lt hlB))
                      obtain ⟨sv, hsv⟩ : ∃ sv, encS (some xs) = sv := ⟨_, rfl⟩
                      have p8 : w8.cell? ⟨gn, q2, none⟩ = some (.string sv) := by rw [← hsv]; exact o8.c1 hnq
                      have hcv := conv_own own8
                      obtain ⟨m, hm⟩ : ∃ m, xs.length = m := ⟨_, rfl⟩
                      have hsz : (strB xs).size = m := by unfold strB; simpa [ByteArray.size] using hm
                      have hbg : ¬ 9223372036854775807 < 1 + m := by omega
                      have hadd : (⟨#[61]⟩ ++ strB xs : ByteArray) = sv := hsv
                      have hne : ¬ sv.toList = [] := by rw [← hsv]; exact encS_ne xs
                      have hne2 : (sv.toList == []) = false := by simpa using hne
                      have HR := Lib.hid (And.intro k8 (And.intro o8 (And.intro os8 (And.intro HPR.out hB8))))
                      clear HA HPR kr or_ osr hP hBr hx8 own8 k8 o8 os8 hB8 hlen ho hnq hsv hm hxl
                      generalize strB xs = sx at *
                      go_wp2_with fail
                      go_roundw
                      case rel => exact ⟨j + 1, (q2 : Int) + 1, _, hJ.out.2 hin, by have := hJ.out.1; omega, rfl, HR.out.1.mono (by omega), HR.out.2⟩
                      case measure => simp [intOf]; omega
                  · have HA := Lib.hid (c_bkReadNo kr.k iv (by rw [hP.ll]; omega))
                    have HR := Lib.hid (And.intro kr (And.intro or_ (And.intro osr (And.intro hP hBr))))
                    clear kr or_ osr hP hBr
                    go_wp2_with fail
                    with_reducible refine HA.out.mono ?_
                    rintro e w8 ⟨rfl, rfl⟩
                    go_wp2_with fail
                    go_roundw
                    case rel => exact ⟨j + 1, iv + 1, D, hJ.out.2 hin, by have := hJ.out.1; omega, rfl, HR.out.1.mono (by omega), HR.out.2⟩
                    case measure => simp [intOf]; omega
                · have HA := Lib.hid (c_bkReadNo kr.k iv (by rw [hP.ll]; omega))
                  have HR := Lib.hid (And.intro kr (And.intro or_ (And.intro osr (And.intro hP hBr))))
                  clear kr or_ osr hP hBr
                  go_wp2_with fail
                  with_reducible refine HA.out.mono ?_
                  rintro e w8 ⟨rfl, rfl⟩
                  go_wp2_with fail
                  go_roundw
                  case rel => exact ⟨j + 1, iv + 1, D, hJ.out.2 hin, by have := hJ.out.1; omega, rfl, HR.out.1.mono (by omega), HR.out.2⟩
                  case measure => simp [intOf]; omega
              · go_upto_region 42 with fail
                have hjn : j ≤ n + 2 := HJ3.out
                have hST := fun W (hb : Below wr.heap.size wr.drew W) => b_state (kr.up ((below_drew (Below.refl wr.heap.size wr)).trans hb)) (by have := hP.ll; omega)
                obtain ⟨xs, hxs⟩ : ∃ xs, stL l' = xs := ⟨_, rfl⟩
                have hos : OwnB wr.drew bs 5 u12 xs := hxs ▸ osr.below (below_drew (Below.refl wr.heap.size wr))
                rw [hxs] at hST
                have HST := Lib.hid hST
                have HR := Lib.hid (And.intro (kr.mono (show 20 * i + 2 + j ≤ 20 * (i + 1) by omega)) (And.intro or_ (And.intro osr (And.intro hP hBr))))
                clear hST kr or_ osr hP hBr hxs hjn
                refine wp_region_invF [166, 167, 168, 169, 170, 171, 172, 173, 174, 175, 176, 177, 178, 179, 180] (fun x => by simp only [fillA, Act.put, List.setIfInBounds_toArray, List.set_cons_zero, List.set_cons_succ]; rfl) rfl (by kernel_rfl) (by kernel_rfl) (R0 := Below wr.heap.size) (wayB _) (fun _ => RBP wr.heap.size)
                  (fun i a b h => h.2.mono h.1) (gBP gB' u12 xs) (fun i j v a b hji hdp hR hG => gBP_st hR.2 hG) (fun i hi x w1 hw hG => ?step) (fun x w1 hw hG => ?fin)
                case step =>
                  have hwB : wr.heap.size ≤ w1.heap.size := hw.size
                  rcases (show i = 0 ∨ i = 1 ∨ i = 2 ∨ i = 3 ∨ i = 4 ∨ i = 5 ∨ i = 6 ∨ i = 7 ∨ i = 8 ∨ i = 9 ∨ i = 10 ∨ i = 11 ∨ i = 12 ∨ i = 13 ∨ i = 14 by have : i < 15 := hi; omega) with rfl | rfl | rfl | rfl | rfl | rfl | rfl | rfl | rfl | rfl | rfl | rfl | rfl | rfl | rfl
                  · refine inv_op (by simp only [List.getElem?_toArray, List.getElem?_cons_succ, List.getElem?_cons_zero]; rfl) rfl rfl ?_; intro K hK; refine wp_val (v := Value.pointer (some ⟨gB', 0, none⟩)) (w' := w1) (by go_simp) ?_; exact hK _ _ ⟨hwB, Below.refl _ _⟩ rfl
                  · have e0 : x 0 = .pointer (some ⟨gB', 0, none⟩) := hG 0 (by kernel_rfl)
                    rw [e0]; refine inv_op (by simp only [List.getElem?_toArray, List.getElem?_cons_succ, List.getElem?_cons_zero]; rfl) rfl rfl ?_; intro K hK; go_simp; go_at_call 51; (with_reducible refine (HST.out _ hw).mono ?_); rintro r w2 ⟨v, rfl, os, -, hb2⟩; exact hK v _ ⟨hwB, hb2⟩ ⟨_, os⟩
                  · obtain ⟨B2, ho2⟩ := (show ∃ B, OwnB w1 B 5 (x 1) xs from hG 1 (by kernel_rfl))
                    have hcv := conv_own ho2
                    refine inv_op (by simp only [List.getElem?_toArray, List.getElem?_cons_succ, List.getElem?_cons_zero]; rfl) rfl rfl ?_; intro K hK; refine wp_val (v := Value.string (strB xs)) (w' := w1) (by go_simp) ?_; exact hK _ _ ⟨hwB, Below.refl _ _⟩ rfl
                  · refine inv_op (by simp only [List.getElem?_toArray, List.getElem?_cons_succ, List.getElem?_cons_zero]; rfl) rfl rfl ?_; intro K hK; refine wp_val (v := u12) (w' := w1) (by go_simp) ?_; exact hK _ _ ⟨hwB, Below.refl _ _⟩ rfl
                  · have e3 : x 3 = u12 := hG 3 (by kernel_rfl)
                    have hcv := conv_own (hos.below hw)
                    rw [e3]; refine inv_op (by simp only [List.getElem?_toArray, List.getElem?_cons_succ, List.getElem?_cons_zero]; rfl) rfl rfl ?_; intro K hK; refine wp_val (v := Value.string (strB xs)) (w' := w1) (by go_simp) ?_; exact hK _ _ ⟨hwB, Below.refl _ _⟩ rfl
                  · have e2 : x 2 = .string (strB xs) := hG 2 (by kernel_rfl)
                    have e4 : x 4 = .string (strB xs) := hG 4 (by kernel_rfl)
                    rw [e2, e4]; refine inv_op (by simp only [List.getElem?_toArray, List.getElem?_cons_succ, List.getElem?_cons_zero]; rfl) rfl rfl ?_; intro K hK; refine wp_val (v := Value.bool false) (w' := w1) (by go_simp) ?_; exact hK _ _ ⟨hwB, Below.refl _ _⟩ rfl
                  · have e5 : x 5 = .bool false := hG 5 (by kernel_rfl)
                    rw [e5]; refine inv_op (by simp only [List.getElem?_toArray, List.getElem?_cons_succ, List.getElem?_cons_zero]; rfl) rfl rfl ?_; intro K hK; refine wp_val (v := Value.bool false) (w' := w1) (by go_simp) ?_; exact hK _ _ ⟨hwB, Below.refl _ _⟩ rfl
                  · have e6 : x 6 = .bool false := hG 6 (by kernel_rfl)
                    rw [e6]; exact inv_pass (by simp only [List.getElem?_toArray, List.getElem?_cons_succ, List.getElem?_cons_zero]; rfl) rfl (by rfl) ⟨hwB, Below.refl _ _⟩ trivial
                  · have e6 : x 6 = .bool false := hG 6 (by kernel_rfl)
                    rw [e6]; exact inv_pass (by simp only [List.getElem?_toArray, List.getElem?_cons_succ, List.getElem?_cons_zero]; rfl) rfl (by rfl) ⟨hwB, Below.refl _ _⟩ trivial
                  · have e6 : x 6 = .bool false := hG 6 (by kernel_rfl)
                    rw [e6]; exact inv_pass (by simp only [List.getElem?_toArray, List.getElem?_cons_succ, List.getElem?_cons_zero]; rfl) rfl (by rfl) ⟨hwB, Below.refl _ _⟩ trivial
                  · have e6 : x 6 = .bool false := hG 6 (by kernel_rfl)
                    rw [e6]; exact inv_pass (by simp only [List.getElem?_toArray, List.getElem?_cons_succ, List.getElem?_cons_zero]; rfl) rfl (by rfl) ⟨hwB, Below.refl _ _⟩ trivial
                  · have e6 : x 6 = .bool false := hG 6 (by kernel_rfl)
                    rw [e6]; exact inv_pass (by simp only [List.getElem?_toArray, List.getElem?_cons_succ, List.getElem?_cons_zero]; rfl) rfl (by rfl) ⟨hwB, Below.refl _ _⟩ trivial
                  · have e6 : x 6 = .bool false := hG 6 (by kernel_rfl)
                    rw [e6]; exact inv_pass (by simp only [List.getElem?_toArray, List.getElem?_cons_succ, List.getElem?_cons_zero]; rfl) rfl (by rfl) ⟨hwB, Below.refl _ _⟩ trivial
                  · have e6 : x 6 = .bool false := hG 6 (by kernel_rfl)
                    rw [e6]; exact inv_pass (by simp only [List.getElem?_toArray, List.getElem?_cons_succ, List.getElem?_cons_zero]; rfl) rfl (by rfl) ⟨hwB, Below.refl _ _⟩ trivial
                  · have e6 : x 6 = .bool false := hG 6 (by kernel_rfl)
                    rw [e6]; refine inv_op (by simp only [List.getElem?_toArray, List.getElem?_cons_succ, List.getElem?_cons_zero]; rfl) rfl rfl ?_; intro K hK; refine wp_val (v := Value.bool false) (w' := w1) (by go_simp) ?_; exact hK _ _ ⟨hwB, Below.refl _ _⟩ rfl
                case fin =>
                  have e14 : x 14 = .bool false := hG 14 (by decide)
                  rw [e14]
                  have hwz := (below_drew (Below.refl wr.heap.size wr)).trans hw
                  have HZ := Lib.hid (And.intro (HR.out.1.up hwz) (And.intro (HR.out.2.1.up hwz) (And.intro (HR.out.2.2.1.below hwz) (And.intro HR.out.2.2.2.1 (below_two HR.out.2.2.2.2 hwz)))))
                  have hw2 : IntKind.i64.wrap ((i : Int) + 1) = (i : Int) + 1 := IntWalk.i64_in _ (by omega)
                  clear HR hwz hG hw HST hos e14
                  go_wp2
                  go_roundw
                  case rel => exact ⟨i + 1, seq', D, l', now', was', gB', gp', by omega, hq', rfl, by go_num, HZ.out⟩
                  case measure => simp [intOf]; omega
        · have HW := Lib.hid hBr
          clear hBr kr or_ osr hP
          by_cases q0 : (i : Int) < (l0 : Int)
          case' pos => have q1 : ¬ (i : Int) < 40 := fun h => hend ⟨q0, h⟩
          all_goals
            clear hend
            go_wp2_with fail
            refine (c_awake12 _).mono ?_
            rintro e w8 ⟨rfl, hb8⟩
            go_wp2_with fail
            go_ret
            exact ⟨rfl, below_two HW.out hb8⟩
theorem w_BankPlays (y0 : List UInt8) (a1 : Int) (a2 : Option Addr) (len2 cap2 : Nat) (w : World) (w0 : y0.length = 32) (w1 : (Lit.int .i64 a1).wf = true) (w2 : IsSteps w a2 len2 cap2) :
    Calls Try.prog 12 #[.agg (bv y0).toArray, .int .i64 a1, .slice a2 len2 cap2] w fun e w' => e = .returned (.bool true) ∧ Below w.heap.size w w' := by
  obtain ⟨ss, hS⟩ := steps_at w2
  exact w_bpla0 y0 w0 a1 a2 len2 cap2 ss w hS
end Go.Proofs.Ytmdmhjcdaejlkaa
