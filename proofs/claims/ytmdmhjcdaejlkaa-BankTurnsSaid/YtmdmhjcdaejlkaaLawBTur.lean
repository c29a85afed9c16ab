/- The walk of BankTurns. -/
import Derived.Test.YtmdmhjcdaejlkaaBoolR
import Derived.Test.YtmdmhjcdaejlkaaSinceR
import Derived.Test.YtmdmhjcdaejlkaaMask
import Derived.Test.YtmdmhjcdaejlkaaRow
set_option linter.unusedVariables false
set_option linter.unusedSimpArgs false
namespace Go.Proofs.Ytmdmhjcdaejlkaa
open Go.RowKit

theorem rep_set (n k : Nat) (h : k < n) : (List.replicate k (true, false) ++ List.replicate (n - k) (false, false)).set k (true, false) = List.replicate (k + 1) (true, false) ++ List.replicate (n - (k + 1)) (false, false) := by
  have e : n - k = (n - (k + 1)) + 1 := by omega
  rw [e, List.replicate_succ, List.set_append_right _ _ (by simp), List.length_replicate, Nat.sub_self, List.set_cons_zero, List.replicate_succ', List.append_assoc]
  rfl
theorem rep_get (n k : Nat) (h : k < n) : (List.replicate k (true, false) ++ List.replicate (n - k) (false, false))[k]? = some (false, false) := by
  rw [List.getElem?_append_right (by simp), List.length_replicate, Nat.sub_self, List.getElem?_replicate, if_pos (by omega)]
theorem Bo.notInt {W : World} {base gs gf g j : Nat} {l : List (Bool × Bool)} {k : IntKind} {x : Int} (o : Bo W base gs gf l) (h : W.cell? ⟨g, j, none⟩ = some (.int k x)) : g ≠ gf := by
  rintro rfl
  have h2 : W.cell? ⟨g, j, none⟩ = (bo2 l).toArray[j]? := cell_of_row _ _ j _ _ (0, 0) o.f
  rw [h2, List.getElem?_toArray, bo2_get] at h
  cases hl : l[j]? <;> rw [hl] at h <;> cases h
set_option maxHeartbeats 16000000 in
set_option maxRecDepth 100000 in
theorem w_btur0 (x0 : Int) (A0 : Option Addr) (l0 c0 : Nat) (zs : List Int) (w : World) (hR : Rd w A0 l0 (iv zs)) (hz : ∀ x ∈ zs, (Lit.int .i64 x).wf = true) :
    Calls Try.prog 14 #[.int .i64 x0, .slice A0 l0 c0] w fun e w' => e = .returned (.bool true) ∧ Below w.heap.size w w' := by
  have hm := m7 x0
  obtain ⟨n7, hn⟩ : ∃ n : Nat, x0 % 8 = (n : Int) := ⟨(x0 % 8).toNat, by omega⟩
  obtain ⟨n, hn1⟩ : ∃ n, n7 + 1 = n := ⟨_, rfl⟩
  have hn8 : n ≤ 8 := by omega
  have hn0 : 1 ≤ n := by omega
  have hw1 : IntKind.i64.wrap ((n7 : Int) + 1) = (n : Int) := by rw [show (n7 : Int) + 1 = (n : Int) by omega]; exact IntWalk.i64_in _ (by omega)
  rw [hn] at hm
  clear hn hn1
  have HR := Lib.hid hR
  have HZ := Lib.hid hz
  clear hR hz
  go_enter Try.func14, Try.ntmps14
  go_wp2_with fail
  refine (i_new 20 40 w (by decide) (by decide)).mono ?_
  rintro e w1 ⟨b, rfl, hI, hB⟩
  obtain ⟨key, hkey⟩ : ∃ key : List UInt8, key = 7 :: List.replicate 31 0 := ⟨_, rfl⟩
  have hk32 : key.length = 32 := by rw [hkey]; rfl
  have hkv : (#[.int .u8 7, .int .u8 0, .int .u8 0, .int .u8 0, .int .u8 0, .int .u8 0, .int .u8 0, .int .u8 0, .int .u8 0, .int .u8 0, .int .u8 0, .int .u8 0, .int .u8 0, .int .u8 0, .int .u8 0, .int .u8 0, .int .u8 0, .int .u8 0, .int .u8 0, .int .u8 0, .int .u8 0, .int .u8 0, .int .u8 0, .int .u8 0, .int .u8 0, .int .u8 0, .int .u8 0, .int .u8 0, .int .u8 0, .int .u8 0, .int .u8 0, .int .u8 0] : Array Value) = (bv key).toArray := by rw [hkey]; rfl
  have hn1 := p_new b key hk32 1 (by decide) w1
  rw [hkv.symm] at hn1
  simp only [show ((1 : Nat) : Int) = 1 from rfl] at hn1
  have HN1 := Lib.hid hn1
  have HKL := Lib.hid hk32
  clear hkey hkv hn1 hk32
  have hD0 : Free (dkNew 20 40) ∧ (dkNew 20 40).size = 40 ∧ (dkNew 20 40).blocks = 20 := ⟨⟨rfl, rfl⟩, rfl, rfl⟩
  generalize dkNew 20 40 = D0 at *
  have HD0 := Lib.hid hD0
  clear hD0
  go_wp2_with fail
  refine HN1.out.mono ?_
  rintro e w2 ⟨g, rfl, hP, hg, hb2⟩
  have hI2 := hI.below hb2
  have hgb : w.heap.size ≤ g := Nat.le_trans hI.le hg
  have hB2 := below_two hB hb2
  clear HN1 hI hB hb2 hg
  have hbn := c_bkNew g 2 n (by omega) w2
  simp only [show ((2 : Nat) : Int) = 2 from rfl] at hbn
  have HBN := Lib.hid hbn
  clear hbn
  go_wp2_with fail
  refine HBN.out.mono ?_
  rintro e w3 ⟨gB, gp, rfl, hK, hgB, hgp, hb3⟩
  have k3 : Bk w3 w.heap.size b 0 D0 g key 1 0 gB gp 2 (List.replicate n (true, false)) := ⟨hI2.below hb3, hP.below hb3 hP.lt, hK, hgb, Nat.le_trans hI2.le hgp⟩
  have hB3 := below_two hB2 hb3
  clear HBN hI2 hP hK hgB hgp hb3 hB2 hgb
  go_upto_region 6 with fail
  obtain ⟨zr, hzr, hmk⟩ := run_mkBo n (by omega)
  have hba : Below w3.heap.size w3 ((w3.alloc (.cells zr 4)).alloc (.cells zr 4)).drew := below_drew (((Below.refl w3.heap.size w3).alloc (Nat.le_refl _) _).alloc (by simp) _)
  have ra : Row ((w3.alloc (.cells zr 4)).alloc (.cells zr 4)).drew w3.heap.size zr 4 := Row.alloc (Row.new w3 zr 4) (.cells zr 4)
  have rb : Row ((w3.alloc (.cells zr 4)).alloc (.cells zr 4)).drew (w3.heap.size + 1) zr 4 := by
    have := Row.new (w3.alloc (.cells zr 4)) zr 4
    rw [show (w3.alloc (.cells zr 4)).heap.size = w3.heap.size + 1 by simp] at this
    exact this
  have e1 : zr = (bo1 (List.replicate 0 (true, false) ++ List.replicate (n - 0) (false, false))).toArray := by rw [hzr]; simp [bo1]
  have e2 : zr = (bo2 (List.replicate 0 (true, false) ++ List.replicate (n - 0) (false, false))).toArray := by rw [hzr]; simp [bo2]
  have hbs := k3.i.le
  obtain ⟨w4, hw4⟩ : ∃ w4, ((w3.alloc (.cells zr 4)).alloc (.cells zr 4)).drew = w4 := ⟨_, rfl⟩
  rw [hw4] at hba ra rb
  have HW4 := Lib.hid hw4
  have ra1 : Row w4 w3.heap.size _ _ := e1 ▸ ra
  have ra2 : Row w4 w3.heap.size _ _ := e2 ▸ ra
  have rb1 : Row w4 (w3.heap.size + 1) _ _ := e1 ▸ rb
  have rb2 : Row w4 (w3.heap.size + 1) _ _ := e2 ▸ rb
  have HB1 := Lib.hid (And.intro (k3.up hba) (And.intro (below_two hB3 hba) (Bo.mk (base := w.heap.size) (gs := w3.heap.size) (gf := w3.heap.size + 1) ra1 rb2 (by omega) hbs (by omega))))
  have HB2 := Lib.hid (And.intro (k3.up hba) (And.intro (below_two hB3 hba) (Bo.mk (base := w.heap.size) (gs := w3.heap.size + 1) (gf := w3.heap.size) rb1 ra2 (by omega) (by omega) hbs)))
  clear hba ra rb ra1 ra2 rb1 rb2 hw4 e1 e2 hbs k3 hB3 hzr
  (refine wp_region_linN (Below w3.heap.size) (Below w3.heap.size) (wayB _) (wayB _) (fun _ _ h => h) (.free 0 (.free 2 (.two 1 [] [] [] (.free 4 (.op 3 [] [] [] (.free 5 .nil))) 3 [] [] [] (.op 1 [] [] [] (.free 4 (.free 5 .nil)))))) rfl (by kernel_rfl) (by kernel_rfl) (fun _ _ _ _ _ h => h) ?_; (first | (apply linN_free; (simp only [List.getElem?_toArray, List.getElem?_cons_succ, List.getElem?_cons_zero]; rfl); (rfl); (intro w'; (first | (go_simp; done) | (go_simp; with_reducible rfl) | (go_simp; go_bits; with_reducible rfl) | (go_simp; go_bits; done))); try simp only [Act.put, List.setIfInBounds_toArray, List.set_cons_zero, List.set_cons_succ]) | (apply linN_freeSkip; (simp only [List.getElem?_toArray, List.getElem?_cons_succ, List.getElem?_cons_zero]; rfl); (rfl); try simp only [Act.put, List.setIfInBounds_toArray, List.set_cons_zero, List.set_cons_succ])); (first | (apply linN_free; (simp only [List.getElem?_toArray, List.getElem?_cons_succ, List.getElem?_cons_zero]; rfl); (rfl); (intro w'; (first | (go_simp; done) | (go_simp; with_reducible rfl) | (go_simp; go_bits; with_reducible rfl) | (go_simp; go_bits; done))); try simp only [Act.put, List.setIfInBounds_toArray, List.set_cons_zero, List.set_cons_succ]) | (apply linN_freeSkip; (simp only [List.getElem?_toArray, List.getElem?_cons_succ, List.getElem?_cons_zero]; rfl); (rfl); try simp only [Act.put, List.setIfInBounds_toArray, List.set_cons_zero, List.set_cons_succ])); refine linN_two ?_ ?_; (focus ((first | (apply passN; (simp only [List.getElem?_toArray, List.getElem?_cons_succ, List.getElem?_cons_zero]; rfl); (rfl); (exact trivial); try simp only [Act.put, List.setIfInBounds_toArray, List.set_cons_zero, List.set_cons_succ]) | (apply opN; (simp only [List.getElem?_toArray, List.getElem?_cons_succ, List.getElem?_cons_zero]; rfl); (rfl); intro K hK; (first | (go_simp; (first | skip))); refine hK _ _ ?_ ?_; (exact trivial); clear hK; try simp only [Act.put, List.setIfInBounds_toArray, List.set_cons_zero, List.set_cons_succ])); (first | (apply linN_free; (simp only [List.getElem?_toArray, List.getElem?_cons_succ, List.getElem?_cons_zero]; rfl); (rfl); (intro w'; (first | (go_simp; done) | (go_simp; with_reducible rfl) | (go_simp; go_bits; with_reducible rfl) | (go_simp; go_bits; done))); try simp only [Act.put, List.setIfInBounds_toArray, List.set_cons_zero, List.set_cons_succ]) | (apply linN_freeSkip; (simp only [List.getElem?_toArray, List.getElem?_cons_succ, List.getElem?_cons_zero]; rfl); (rfl); try simp only [Act.put, List.setIfInBounds_toArray, List.set_cons_zero, List.set_cons_succ])); (first | (apply linN_pass (wayB _) (wayB _); (simp only [List.getElem?_toArray, List.getElem?_cons_succ, List.getElem?_cons_zero]; rfl); (rfl); try simp only [Act.put, List.setIfInBounds_toArray, List.set_cons_zero, List.set_cons_succ]) | (apply linN_op; (simp only [List.getElem?_toArray, List.getElem?_cons_succ, List.getElem?_cons_zero]; rfl); (rfl); intro K hK; (first | (go_simp; (first | skip))); refine hK _ _ ?_ ?_; (exact trivial); clear hK; try simp only [Act.put, List.setIfInBounds_toArray, List.set_cons_zero, List.set_cons_succ])); (first | (apply linN_free; (simp only [List.getElem?_toArray, List.getElem?_cons_succ, List.getElem?_cons_zero]; rfl); (rfl); (intro w'; (first | (go_simp; done) | (go_simp; with_reducible rfl) | (go_simp; go_bits; with_reducible rfl) | (go_simp; go_bits; done))); try simp only [Act.put, List.setIfInBounds_toArray, List.set_cons_zero, List.set_cons_succ]) | (apply linN_freeSkip; (simp only [List.getElem?_toArray, List.getElem?_cons_succ, List.getElem?_cons_zero]; rfl); (rfl); try simp only [Act.put, List.setIfInBounds_toArray, List.set_cons_zero, List.set_cons_succ])); refine linN_end ?_)); rotate_left 1; (focus ((first | (apply passN; (simp only [List.getElem?_toArray, List.getElem?_cons_succ, List.getElem?_cons_zero]; rfl); (rfl); (exact trivial); try simp only [Act.put, List.setIfInBounds_toArray, List.set_cons_zero, List.set_cons_succ]) | (apply opN; (simp only [List.getElem?_toArray, List.getElem?_cons_succ, List.getElem?_cons_zero]; rfl); (rfl); intro K hK; (first | (go_simp; (first | skip))); refine hK _ _ ?_ ?_; (exact trivial); clear hK; try simp only [Act.put, List.setIfInBounds_toArray, List.set_cons_zero, List.set_cons_succ])); (first | (apply linN_pass (wayB _) (wayB _); (simp only [List.getElem?_toArray, List.getElem?_cons_succ, List.getElem?_cons_zero]; rfl); (rfl); try simp only [Act.put, List.setIfInBounds_toArray, List.set_cons_zero, List.set_cons_succ]) | (apply linN_op; (simp only [List.getElem?_toArray, List.getElem?_cons_succ, List.getElem?_cons_zero]; rfl); (rfl); intro K hK; (first | (go_simp; (first | skip))); refine hK _ _ ?_ ?_; (exact trivial); clear hK; try simp only [Act.put, List.setIfInBounds_toArray, List.set_cons_zero, List.set_cons_succ])); (first | (apply linN_free; (simp only [List.getElem?_toArray, List.getElem?_cons_succ, List.getElem?_cons_zero]; rfl); (rfl); (intro w'; (first | (go_simp; done) | (go_simp; with_reducible rfl) | (go_simp; go_bits; with_reducible rfl) | (go_simp; go_bits; done))); try simp only [Act.put, List.setIfInBounds_toArray, List.set_cons_zero, List.set_cons_succ]) | (apply linN_freeSkip; (simp only [List.getElem?_toArray, List.getElem?_cons_succ, List.getElem?_cons_zero]; rfl); (rfl); try simp only [Act.put, List.setIfInBounds_toArray, List.set_cons_zero, List.set_cons_succ])); (first | (apply linN_free; (simp only [List.getElem?_toArray, List.getElem?_cons_succ, List.getElem?_cons_zero]; rfl); (rfl); (intro w'; (first | (go_simp; done) | (go_simp; with_reducible rfl) | (go_simp; go_bits; with_reducible rfl) | (go_simp; go_bits; done))); try simp only [Act.put, List.setIfInBounds_toArray, List.set_cons_zero, List.set_cons_succ]) | (apply linN_freeSkip; (simp only [List.getElem?_toArray, List.getElem?_cons_succ, List.getElem?_cons_zero]; rfl); (rfl); try simp only [Act.put, List.setIfInBounds_toArray, List.set_cons_zero, List.set_cons_succ])); refine linN_end ?_)); rotate_right 1)
  case' h.h.refine_1.h.refine_2.h.h.refine_2.h =>
    have HB := HB1
    clear HB1 HB2
    rw [HW4.out]
    clear HW4
    generalize w3.heap.size + 1 = gf at *
    generalize w3.heap.size = gs at *
  case' h.h.refine_2.h.refine_2.h.refine_2.h.h =>
    have HB := HB2
    clear HB1 HB2
    rw [HW4.out]
    clear HW4
    generalize w3.heap.size + 1 = gs at *
    generalize w3.heap.size = gf at *
  all_goals
    clear hmk
    go_wp2_with fail
    go_loopw [39] (fun s39 wr => ∃ k : Nat, k ≤ n ∧ s39 = .int .i64 (k : Int) ∧ Bk wr w.heap.size b 0 D0 g key 1 0 gB gp 2 (List.replicate n (true, false)) ∧ Bo wr w.heap.size gs gf (List.replicate k (true, false) ++ List.replicate (n - k) (false, false)) ∧ Below w.heap.size w wr) (fun s39 _ => (n - intOf s39).toNat)
    case atStart => exact ⟨0, Nat.zero_le _, rfl, HB.out.1, HB.out.2.2, HB.out.2.1⟩
    case round =>
      obtain ⟨k, hk, rfl, kr, or_, hBr⟩ := hrel
      clear HB
      by_cases hlt : k < n
      · have hlt2 : (k : Int) < (n : Int) := by omega
        have hget := rep_get n k hlt
        have p0 := or_.c1 hget
        have z0 : wr.frozen? ⟨gs, k, none⟩ = false := or_.s.free k
        have hw2 : IntKind.i64.wrap ((k : Int) + 1) = (k : Int) + 1 := IntWalk.i64_in _ (by omega)
        have HS := Lib.hid (And.intro (kr.setBo or_.s or_.hs k (.bool true)) (And.intro ((rep_set n k hlt) ▸ or_.set1 hget true) (hBr.trans (Below.setCell (Below.refl w.heap.size wr) (show w.heap.size ≤ (⟨gs, k, none⟩ : Addr).block from or_.hs) (.bool true)))))
        clear kr or_ hBr hget
        go_wp2_with fail
        go_roundw
        case rel => exact ⟨k + 1, hlt, by go_num, HS.out.1, HS.out.2.1, HS.out.2.2⟩
        case measure => simp [intOf]; omega
      · obtain rfl : k = n := by omega
        rw [Nat.sub_self, List.replicate_zero, List.append_nil] at or_
        have hln : (List.replicate k (true, false)).length = k := List.length_replicate
        have HH := Lib.hid (And.intro kr (And.intro or_ (And.intro hBr hln)))
        clear kr or_ hBr hln hk hlt
        generalize List.replicate k (true, false) = l at *
        go_wp2_with fail
        go_loopw [10] (fun s10 wr => ∃ (i seq : Nat) (D : Dk) (l : List (Bool × Bool)), i ≤ 40 ∧ seq ≤ i ∧ s10 = .int .i64 (i : Int) ∧ Bk wr w.heap.size b (2 * i) D g key 1 seq gB gp 2 l ∧ Bo wr w.heap.size gs gf l ∧ (Free D ∧ D.size = 40 ∧ D.blocks = 20) ∧ l.length = k ∧ Below w.heap.size w wr) (fun s10 _ => (40 - intOf s10).toNat)
        case atStart => exact ⟨0, 0, D0, l, by omega, by omega, rfl, HH.out.1, HH.out.2.1, HD0.out, HH.out.2.2.2, HH.out.2.2.1⟩
        case round =>
          clear HH HD0
          obtain ⟨i, seq, D, l, hi, hq, rfl, kr, or_, hD, hln, hBr⟩ := hrel
          by_cases hend : (i : Int) < (l0 : Int) ∧ (i : Int) < 40
          · obtain ⟨q0, q1⟩ := hend
            have hrd := HR.out.below hBr (Nat.le_refl _)
            obtain ⟨x, hx⟩ : ∃ x, zs[i]? = some x := by
              have := hrd.1; simp [iv] at this
              exact ⟨_, List.getElem?_eq_getElem (by omega)⟩
            obtain ⟨ad, hA⟩ : ∃ ad, A0 = some ad := by
              obtain ⟨ad, e, _⟩ := hrd.2 (by omega); exact ⟨ad, e⟩
            subst hA
            have hcx : wr.cell? (ad.add i) = some (.int .i64 x) := by
              have := hrd.int_cell (j := i) (by omega); rw [hx] at this; exact this
            obtain ⟨c, hc⟩ : ∃ c, (x % 256).toNat % k = c := ⟨_, rfl⟩
            have hck : c < k := by rw [← hc]; exact Nat.mod_lt _ (by omega)
            have e255 := m255 x
            have e3 := m3 (x / 256)
            have hrem : IntKind.i64.wrap ((x % 256).tmod (k : Int)) = (c : Int) := by
              rw [Int.tmod_eq_emod_of_nonneg (by omega), show x % 256 = ((x % 256).toNat : Int) by omega, ← Int.natCast_emod, hc]
              exact IntWalk.i64_in _ (by omega)
            have hrem2 : x % 256 % (k : Int) = (c : Int) := by
              rw [show x % 256 = ((x % 256).toNat : Int) by omega, ← Int.natCast_emod, hc]
            have hk0 : ¬ (k : Int) = 0 := by omega
            obtain ⟨⟨s, f⟩, hsf⟩ : ∃ p, l[c]? = some p := ⟨_, List.getElem?_eq_getElem (by omega)⟩
            clear hx hc hrd
            by_cases hcm : x / 256 % 4 = 0
            · rw [hcm] at e3
              go_wp2_with fail
              refine (b_commit kr (by omega)).mono ?_
              rintro e w5 ⟨rfl, k5, hp5⟩
              have o5 := or_.px kr hp5
              have hB5 := hBr.trans hp5.1
              clear kr or_ hBr hp5 hcx e255 e3 hrem hrem2 hk0 hcm hsf
              go_wp2_with fail
              go_loopw [74] (fun s74 wq => ∃ j : Nat, j ≤ k ∧ s74 = .int .i64 (j : Int) ∧ Bk wq w.heap.size b (2 * i) D g key 1 seq gB gp 2 (l.map cmP) ∧ Bo wq w.heap.size gs gf ((l.take j).map cmP ++ l.drop j) ∧ Below w.heap.size w wq) (fun s74 _ => (k - intOf s74).toNat)
              case atStart => exact ⟨0, Nat.zero_le _, rfl, k5, by simpa using o5, hB5⟩
              case round =>
                clear k5 o5 hB5
                obtain ⟨j, hj, rfl, kr, or_, hBr⟩ := hrel
                by_cases hlt : j < k
                · have hlt2 : (j : Int) < (k : Int) := by omega
                  obtain ⟨⟨s, f⟩, hsf⟩ : ∃ p, l[j]? = some p := ⟨_, List.getElem?_eq_getElem (by omega)⟩
                  have hget : ((l.take j).map cmP ++ l.drop j)[j]? = some (s, f) := by
                    rw [List.getElem?_append_right (by rw [List.length_map, List.length_take]; omega), List.length_map, List.length_take, Nat.min_eq_left (by omega), Nat.sub_self, List.getElem?_drop, Nat.add_zero]
                    exact hsf
                  have HS := Lib.hid (And.intro (cm_step l j s f hsf) hget)
                  clear hsf hget
                  generalize (l.take j).map cmP ++ l.drop j = lk at *
                  obtain ⟨x, hx⟩ : ∃ x, (!(s == f)) = x := ⟨_, rfl⟩
                  have p0 : wr.drew.cell? ⟨gs, j, none⟩ = some (.bool s) := or_.c1 HS.out.2
                  have p1 : wr.drew.cell? ⟨gf, j, none⟩ = some (.bool f) := or_.c2 HS.out.2
                  have z0 : wr.drew.frozen? ⟨gs, j, none⟩ = false := or_.s.free j
                  have z0b : wr.frozen? ⟨gs, j, none⟩ = false := or_.s.free j
                  go_upto_region 21 with fail
                  (refine wp_region_linN (KpP) (KpP) (wayKpP) (wayKpP) (fun _ _ h => h) (.free 0 (.free 1 (.free 2 (.free 3 (.free 4 (.hot 5 (.free 6 (.free 7 (.free 8 (.hot 9 (.free 10 (.free 11 (.op 12 [(5, 12), (9, 12)] [] [] .nil))))))))))))) rfl (by kernel_rfl) (by kernel_rfl) (fun _ _ _ _ _ h => h) ?_; (first | (apply linN_free; (simp only [List.getElem?_toArray, List.getElem?_cons_succ, List.getElem?_cons_zero]; rfl); (rfl); (intro w'; (first | (go_simp; done) | (go_simp; with_reducible rfl) | (go_simp; go_bits; with_reducible rfl) | (go_simp; go_bits; done))); try simp only [Act.put, List.setIfInBounds_toArray, List.set_cons_zero, List.set_cons_succ]) | (apply linN_freeSkip; (simp only [List.getElem?_toArray, List.getElem?_cons_succ, List.getElem?_cons_zero]; rfl); (rfl); try simp only [Act.put, List.setIfInBounds_toArray, List.set_cons_zero, List.set_cons_succ])); (first | (apply linN_free; (simp only [List.getElem?_toArray, List.getElem?_cons_succ, List.getElem?_cons_zero]; rfl); (rfl); (intro w'; (first | (go_simp; done) | (go_simp; with_reducible rfl) | (go_simp; go_bits; with_reducible rfl) | (go_simp; go_bits; done))); try simp only [Act.put, List.setIfInBounds_toArray, List.set_cons_zero, List.set_cons_succ]) | (apply linN_freeSkip; (simp only [List.getElem?_toArray, List.getElem?_cons_succ, List.getElem?_cons_zero]; rfl); (rfl); try simp only [Act.put, List.setIfInBounds_toArray, List.set_cons_zero, List.set_cons_succ])); (first | (apply linN_free; (simp only [List.getElem?_toArray, List.getElem?_cons_succ, List.getElem?_cons_zero]; rfl); (rfl); (intro w'; (first | (go_simp; done) | (go_simp; with_reducible rfl) | (go_simp; go_bits; with_reducible rfl) | (go_simp; go_bits; done))); try simp only [Act.put, List.setIfInBounds_toArray, List.set_cons_zero, List.set_cons_succ]) | (apply linN_freeSkip; (simp only [List.getElem?_toArray, List.getElem?_cons_succ, List.getElem?_cons_zero]; rfl); (rfl); try simp only [Act.put, List.setIfInBounds_toArray, List.set_cons_zero, List.set_cons_succ])); (first | (apply linN_free; (simp only [List.getElem?_toArray, List.getElem?_cons_succ, List.getElem?_cons_zero]; rfl); (rfl); (intro w'; (first | (go_simp; done) | (go_simp; with_reducible rfl) | (go_simp; go_bits; with_reducible rfl) | (go_simp; go_bits; done))); try simp only [Act.put, List.setIfInBounds_toArray, List.set_cons_zero, List.set_cons_succ]) | (apply linN_freeSkip; (simp only [List.getElem?_toArray, List.getElem?_cons_succ, List.getElem?_cons_zero]; rfl); (rfl); try simp only [Act.put, List.setIfInBounds_toArray, List.set_cons_zero, List.set_cons_succ])); (first | (apply linN_free; (simp only [List.getElem?_toArray, List.getElem?_cons_succ, List.getElem?_cons_zero]; rfl); (rfl); (intro w'; (first | (go_simp; done) | (go_simp; with_reducible rfl) | (go_simp; go_bits; with_reducible rfl) | (go_simp; go_bits; done))); try simp only [Act.put, List.setIfInBounds_toArray, List.set_cons_zero, List.set_cons_succ]) | (apply linN_freeSkip; (simp only [List.getElem?_toArray, List.getElem?_cons_succ, List.getElem?_cons_zero]; rfl); (rfl); try simp only [Act.put, List.setIfInBounds_toArray, List.set_cons_zero, List.set_cons_succ])); (first | (apply linN_hot; (simp only [List.getElem?_toArray, List.getElem?_cons_succ, List.getElem?_cons_zero]; rfl); (rfl); (intro w' hb'; (try have k_p0 := kpP_cell hb' p0); (try have k_p1 := kpP_cell hb' p1); (first | (go_simp; done) | (go_simp; with_reducible rfl) | (go_simp; go_bits; with_reducible rfl) | (go_simp; go_bits; done))); try simp only [Act.put, List.setIfInBounds_toArray, List.set_cons_zero, List.set_cons_succ]) | (apply linN_hotSkip; (simp only [List.getElem?_toArray, List.getElem?_cons_succ, List.getElem?_cons_zero]; rfl); (rfl); try simp only [Act.put, List.setIfInBounds_toArray, List.set_cons_zero, List.set_cons_succ])); (first | (apply linN_free; (simp only [List.getElem?_toArray, List.getElem?_cons_succ, List.getElem?_cons_zero]; rfl); (rfl); (intro w'; (first | (go_simp; done) | (go_simp; with_reducible rfl) | (go_simp; go_bits; with_reducible rfl) | (go_simp; go_bits; done))); try simp only [Act.put, List.setIfInBounds_toArray, List.set_cons_zero, List.set_cons_succ]) | (apply linN_freeSkip; (simp only [List.getElem?_toArray, List.getElem?_cons_succ, List.getElem?_cons_zero]; rfl); (rfl); try simp only [Act.put, List.setIfInBounds_toArray, List.set_cons_zero, List.set_cons_succ])); (first | (apply linN_free; (simp only [List.getElem?_toArray, List.getElem?_cons_succ, List.getElem?_cons_zero]; rfl); (rfl); (intro w'; (first | (go_simp; done) | (go_simp; with_reducible rfl) | (go_simp; go_bits; with_reducible rfl) | (go_simp; go_bits; done))); try simp only [Act.put, List.setIfInBounds_toArray, List.set_cons_zero, List.set_cons_succ]) | (apply linN_freeSkip; (simp only [List.getElem?_toArray, List.getElem?_cons_succ, List.getElem?_cons_zero]; rfl); (rfl); try simp only [Act.put, List.setIfInBounds_toArray, List.set_cons_zero, List.set_cons_succ])); (first | (apply linN_free; (simp only [List.getElem?_toArray, List.getElem?_cons_succ, List.getElem?_cons_zero]; rfl); (rfl); (intro w'; (first | (go_simp; done) | (go_simp; with_reducible rfl) | (go_simp; go_bits; with_reducible rfl) | (go_simp; go_bits; done))); try simp only [Act.put, List.setIfInBounds_toArray, List.set_cons_zero, List.set_cons_succ]) | (apply linN_freeSkip; (simp only [List.getElem?_toArray, List.getElem?_cons_succ, List.getElem?_cons_zero]; rfl); (rfl); try simp only [Act.put, List.setIfInBounds_toArray, List.set_cons_zero, List.set_cons_succ])); (first | (apply linN_hot; (simp only [List.getElem?_toArray, List.getElem?_cons_succ, List.getElem?_cons_zero]; rfl); (rfl); (intro w' hb'; (try have k_p0 := kpP_cell hb' p0); (try have k_p1 := kpP_cell hb' p1); (first | (go_simp; done) | (go_simp; with_reducible rfl) | (go_simp; go_bits; with_reducible rfl) | (go_simp; go_bits; done))); try simp only [Act.put, List.setIfInBounds_toArray, List.set_cons_zero, List.set_cons_succ]) | (apply linN_hotSkip; (simp only [List.getElem?_toArray, List.getElem?_cons_succ, List.getElem?_cons_zero]; rfl); (rfl); try simp only [Act.put, List.setIfInBounds_toArray, List.set_cons_zero, List.set_cons_succ])); (first | (apply linN_free; (simp only [List.getElem?_toArray, List.getElem?_cons_succ, List.getElem?_cons_zero]; rfl); (rfl); (intro w'; (first | (go_simp; done) | (go_simp; with_reducible rfl) | (go_simp; go_bits; with_reducible rfl) | (go_simp; go_bits; done))); try simp only [Act.put, List.setIfInBounds_toArray, List.set_cons_zero, List.set_cons_succ]) | (apply linN_freeSkip; (simp only [List.getElem?_toArray, List.getElem?_cons_succ, List.getElem?_cons_zero]; rfl); (rfl); try simp only [Act.put, List.setIfInBounds_toArray, List.set_cons_zero, List.set_cons_succ])); (first | (apply linN_free; (simp only [List.getElem?_toArray, List.getElem?_cons_succ, List.getElem?_cons_zero]; rfl); (rfl); (intro w'; (first | (go_simp; done) | (go_simp; with_reducible rfl) | (go_simp; go_bits; with_reducible rfl) | (go_simp; go_bits; done))); try simp only [Act.put, List.setIfInBounds_toArray, List.set_cons_zero, List.set_cons_succ]) | (apply linN_freeSkip; (simp only [List.getElem?_toArray, List.getElem?_cons_succ, List.getElem?_cons_zero]; rfl); (rfl); try simp only [Act.put, List.setIfInBounds_toArray, List.set_cons_zero, List.set_cons_succ])); (first | (apply linN_pass (wayKpP) (wayKpP); (simp only [List.getElem?_toArray, List.getElem?_cons_succ, List.getElem?_cons_zero]; rfl); (rfl); try simp only [Act.put, List.setIfInBounds_toArray, List.set_cons_zero, List.set_cons_succ]) | (apply linN_op; (simp only [List.getElem?_toArray, List.getElem?_cons_succ, List.getElem?_cons_zero]; rfl); (rfl); intro K hK; (first | (go_simp; (first | skip))); refine hK _ _ ?_ ?_; (exact trivial); clear hK; try simp only [Act.put, List.setIfInBounds_toArray, List.set_cons_zero, List.set_cons_succ])); refine linN_end ?_)
                  have k6 := kr.setBo or_.s or_.hs j (.bool x)
                  have o6 := or_.set1 HS.out.2 x
                  have hsc : Below w.heap.size wr (wr.setCell ⟨gs, j, none⟩ (.bool x)).drew := below_drew (Below.setCell (Below.refl w.heap.size wr) (show w.heap.size ≤ (⟨gs, j, none⟩ : Addr).block from or_.hs) (.bool x))
                  have hB6 := hBr.trans hsc
                  have k6 : Bk (wr.setCell ⟨gs, j, none⟩ (.bool x)).drew w.heap.size b (2 * i) D g key 1 seq gB gp 2 (l.map cmP) := k6.up (below_drew (Below.refl _ _))
                  have o6 : Bo (wr.setCell ⟨gs, j, none⟩ (.bool x)).drew w.heap.size gs gf (lk.set j (x, f)) := o6.up (below_drew (Below.refl _ _))
                  have hget6 : (lk.set j (x, f))[j]? = some (x, f) := by
                    rw [List.getElem?_set, if_pos rfl, if_pos (List.getElem?_eq_some_iff.1 HS.out.2).1]
                  have hset6 : (lk.set j (x, f)).set j (x, false) = (l.take (j + 1)).map cmP ++ l.drop (j + 1) := by
                    rw [List.set_set, ← HS.out.1, show (s != f) = x from hx]
                  clear kr or_ hBr hsc p0 p1 z0 z0b HS hx
                  generalize (wr.setCell ⟨gs, j, none⟩ (.bool x)).drew = w6 at *
                  have z6 : w6.frozen? ⟨gf, j, none⟩ = false := o6.f.free j
                  have p6 := o6.c2 hget6
                  have hsc : Below w.heap.size w6 (w6.setCell ⟨gf, j, none⟩ (.bool false)) := Below.setCell (Below.refl w.heap.size w6) (show w.heap.size ≤ (⟨gf, j, none⟩ : Addr).block from o6.hf) (.bool false)
                  have HS := Lib.hid (And.intro (k6.setBo o6.f o6.hf j (.bool false)) (And.intro (hset6 ▸ o6.set2 hget6 false) (hB6.trans hsc)))
                  have hw2 : IntKind.i64.wrap ((j : Int) + 1) = (j : Int) + 1 := IntWalk.i64_in _ (by omega)
                  clear k6 o6 hB6 hget6 hset6 hsc
                  go_wp2_with fail
                  go_roundw
                  case rel => exact ⟨j + 1, hlt, by go_num, HS.out.1, HS.out.2.1, HS.out.2.2⟩
                  case measure => simp [intOf]; omega
                · obtain rfl : j = k := by omega
                  rw [List.take_of_length_le (by omega), List.drop_of_length_le (by omega), List.append_nil] at or_
                  have hlc : (l.map cmP).length = j := by simp [hln]
                  clear hln
                  generalize l.map cmP = lc at *
                  have HS := Lib.hid (And.intro hD (And.intro kr (And.intro or_ (And.intro hlc hBr))))
                  have hw2 : IntKind.i64.wrap ((i : Int) + 1) = (i : Int) + 1 := IntWalk.i64_in _ (by omega)
                  clear hD kr or_ hlc hBr
                  go_wp2_with fail
                  go_roundw
                  case rel => exact ⟨i + 1, seq, D, lc, by omega, by omega, by go_num, ⟨⟨HS.out.2.1.i.dk, HS.out.2.1.i.le, HS.out.2.1.i.bd.mono (by omega)⟩, HS.out.2.1.p, HS.out.2.1.k, HS.out.2.1.hg, HS.out.2.1.hgp⟩, HS.out.2.2.1, HS.out.1, HS.out.2.2.2.1, HS.out.2.2.2.2⟩
                  case measure => simp [intOf]; omega
            · obtain ⟨t, ht⟩ : ∃ t, D.trace.length = t := ⟨_, rfl⟩
              have htl := kr.i.bd.ln
              rw [ht] at htl
              have HKT := Lib.hid ht
              have HTR := Lib.hid (i_trace kr.i (by omega))
              clear ht
              go_upto_region 25 with (go_at_call 26; (with_reducible refine HTR.out.mono ?_); rintro e w5 ⟨vt, rfl, ht5, hI5, hb5⟩; (obtain ⟨ts9, -, -, ht6⟩ := ht5); (obtain ⟨A9, c9, rfl, -, -⟩ := own_form ht6); rw [HKT.out])
              have k5 := kr.up hb5
              have o5 := or_.up hb5
              have hB5 := below_two hBr hb5
              obtain ⟨xb, hxb⟩ : ∃ xb : UInt8, (xb.toNat : Int) = (i : Int) := ⟨UInt8.ofNat i, by rw [UInt8.toNat_ofNat_of_lt' (show i < 256 by omega)]⟩
              have hu8 : IntKind.u8.wrap (i : Int) = (i : Int) := IntWalk.u8_in _ (by omega)
              have hb6 := below_alloc (Below.refl w5.heap.size w5) (.cells #[.int .u8 (i : Int)] 5)
              have hl6 : RdB (w5.alloc (.cells #[.int .u8 (i : Int)] 5)) (some ⟨w5.heap.size, 0, none⟩) 1 [xb] := by
                have := rd_lit w5 [.int .u8 (i : Int)] 5 (0, 0) 1 rfl
                show Rd _ _ _ [Value.int .u8 (xb.toNat : Int)]
                rw [hxb]
                exact this
              have k6 := k5.up hb6
              have o6 := o5.up hb6
              have hB6 := below_two hB5 hb6
              have HWR := Lib.hid (b_write k6 (by omega) hD.1.goes c s f hsf (by omega) (by decide) _ 1 1 [xb] hl6 (by omega) true (by rw [hD.2.1]; decide))
              obtain ⟨pl, hpl⟩ : ∃ pl, blkN 2 c (!s) = pl := ⟨_, rfl⟩
              simp only [if_true, hpl, hD.2.1, show (40 : Int).toNat = 40 from rfl] at HWR
              have hpl20 : pl < 20 := by rw [← hpl]; unfold blkN; split <;> omega
              have hgetL : (l.set c (s, true))[c]? = some (s, true) := by
                rw [List.getElem?_set, if_pos rfl, if_pos (List.getElem?_eq_some_iff.1 hsf).1]
              have hDh : D.has (pl : Int) = true := has_true (by omega) (by rw [hD.2.2]; omega)
              have hop : openL key ((D.write (pl : Int) (sealL key 1 seq [xb] 40)).at_ (D.write (pl : Int) (sealL key 1 seq [xb] 40)).now (pl : Int)) = some [xb] := by
                rw [seal_at hDh (s := 40) hD.2.1 (sealL_length (by rw [List.length_singleton]; omega))]
                exact openL_sealL (by rw [List.length_singleton]; decide) (by omega)
              have hD2 : Free (D.write (pl : Int) (sealL key 1 seq [xb] 40)) ∧ (D.write (pl : Int) (sealL key 1 seq [xb] 40)).size = 40 ∧ (D.write (pl : Int) (sealL key 1 seq [xb] 40)).blocks = 20 := ⟨hD.1.write _ _, by rw [write_size]; exact hD.2.1, by rw [write_blocks]; exact hD.2.2⟩
              have htr2 := write_trace D (pl : Int) (sealL key 1 seq [xb] 40)
              have HSL := Lib.hid (And.intro hgetL (And.intro hD2 hop))
              generalize D.write (pl : Int) (sealL key 1 seq [xb] 40) = D2 at *
              have hrd := fun (W : World) (hk : Bk W w.heap.size b (2 * i + 1) D2 g key 1 (seq + 1) gB gp 2 (l.set c (s, true))) => b_read hk (by omega) HSL.out.2.1.1.goes c s true HSL.out.1 (by omega) (by decide)
              rw [show (s != true) = (!s) by cases s <;> rfl, hpl, HSL.out.2.2, opP_some HSL.out.2.2] at hrd
              have HRD := Lib.hid hrd
              have hlen2 : (D2.read (pl : Int)).trace.length = t + 2 := by
                show (D2.trace ++ [_]).length = _
                rw [htr2]; simp [HKT.out]
              have hev1 : ∃ H B, (D2.read (pl : Int)).trace[t + 0]? = some ⟨2, (pl : Int), H, B⟩ := by
                refine ⟨headL (fitL D.size (sealL key 1 seq [xb] 40)), fitL D.size (sealL key 1 seq [xb] 40), ?_⟩
                show (D2.trace ++ [_])[t + 0]? = _
                rw [htr2, ← HKT.out, Nat.add_zero, List.append_assoc, List.getElem?_append_right (Nat.le_refl _), Nat.sub_self]
                rfl
              have hev2 : ∃ H B, (D2.read (pl : Int)).trace[t + 1]? = some ⟨1, (pl : Int), H, B⟩ := by
                refine ⟨headL (D2.at_ D2.now (pl : Int)), [], ?_⟩
                show (D2.trace ++ [_])[t + 1]? = _
                rw [htr2, ← HKT.out, List.append_assoc, List.getElem?_append_right (Nat.le_add_right _ 1), Nat.add_sub_cancel_left]
                rfl
              have HEV := Lib.hid (And.intro hlen2 (And.intro hev1 hev2))
              have HPL := Lib.hid (And.intro hpl hsf)
              clear HTR ht6 kr or_ hBr hb5 hrd hlen2 hev1 hev2 htr2 hop hD2 hD hgetL hpl hDh hcx e255 e3 hrem hrem2 hk0 hcm k5 o5 hB5 hb6 hl6 hpl20 hsf
              go_upto_region 27 with (go_at_call 52; (with_reducible refine HWR.out.mono ?_); rintro e w7 ⟨rfl, k7, hx7⟩)
              have o7 := o6.px k6 hx7
              have hB7 := hB6.trans hx7.1
              have HA := Lib.hid (HRD.out _ k7)
              clear HWR k6 o6 hB6 hx7 hI5 htl
              go_upto_region 28 with (go_at_call 55; (with_reducible refine HA.out.mono ?_); rintro e w8 ⟨v8, rfl, own8, k8, hx8⟩)
              have o8 := o7.px k7 hx8
              have hB8 := hB7.trans hx8.1
              clear HA HRD k7 o7 hB7 hx8
              have HSI := Lib.hid (c_sinceG k8.i (by omega) t 2 HEV.out.1)
              go_upto_region 29 with (go_at_call 48; (with_reducible refine HSI.out.mono ?_); rintro e w9 ⟨⟨A7, c7, rfl, hs7⟩, hI9, hb9⟩)
              have k9 := k8.up hb9
              have o9 := o8.up hb9
              have own9 := own8.below hb9
              have hB9 := below_two hB8 hb9
              obtain ⟨H1, B1, hv1⟩ := HEV.out.2.1
              obtain ⟨H2, B2, hv2⟩ := HEV.out.2.2
              obtain ⟨g', rfl, ck1, ca1⟩ := hs7 0 _ hv1
              obtain ⟨g'', e2, ck2, ca2⟩ := hs7 1 _ hv2
              simp only [Option.some.injEq, Addr.mk.injEq, and_true] at e2
              subst e2
              simp only [Nat.add_zero] at ck1 ca1
              rw [Nat.succ_mul] at ck2 ca2
              obtain ⟨gx, cx, rfl, lx⟩ := own9.one
              rw [hxb] at lx
              have hget9 : (l.set c (s, true))[c]? = some (s, true) := HSL.out.1
              have n1 : ∀ j, w9.cell? (⟨g', j, none⟩ : Addr) = (w9.setCell ⟨gf, c, none⟩ (.bool true)).cell? ⟨g', j, none⟩ := fun j => (World.cell?_setCell_other _ _ _ _ fun e => o9.notInt ck1 (congrArg Addr.block e).symm).symm
              have n2 : ∀ j, w9.cell? (⟨gx, j, none⟩ : Addr) = (w9.setCell ⟨gf, c, none⟩ (.bool true)).cell? ⟨gx, j, none⟩ := fun j => (World.cell?_setCell_other _ _ _ _ fun e => o9.notInt lx (congrArg Addr.block e).symm).symm
              rw [n1] at ck1 ca1 ck2 ca2
              rw [n2] at lx
              have hsc : Below w.heap.size w9 (w9.setCell ⟨gf, c, none⟩ (.bool true)) := Below.setCell (Below.refl w.heap.size w9) (show w.heap.size ≤ (⟨gf, c, none⟩ : Addr).block from o9.hf) (.bool true)
              have p0 := o9.c1 HPL.out.2
              have p2 := o9.c2 HPL.out.2
              have z0 : w9.frozen? ⟨gf, c, none⟩ = false := o9.f.free c
              have HFI := Lib.hid (And.intro (k9.setBo o9.f o9.hf c (.bool true)) (And.intro (o9.set2 HPL.out.2 true) (hB9.trans hsc)))
              have hD3 : Free (D2.read (pl : Int)) ∧ (D2.read (pl : Int)).size = 40 ∧ (D2.read (pl : Int)).blocks = 20 := ⟨HSL.out.2.1.1.read _, HSL.out.2.1.2⟩
              have hln3 : (l.set c (s, true)).length = k := by rw [List.length_set]; exact hln
              have HX := Lib.hid (And.intro hD3 hln3)
              have hpls : blkN 2 c (!s) = pl := HPL.out.1
              have hqa : IntKind.i64.wrap (2 * (c : Int)) = 2 * (c : Int) := IntWalk.i64_in _ (by omega)
              have hqb : IntKind.i64.wrap (2 + 2 * (c : Int)) = 2 + 2 * (c : Int) := IntWalk.i64_in _ (by omega)
              have hqc : IntKind.i64.wrap (2 + 2 * (c : Int) + 1) = 2 + 2 * (c : Int) + 1 := IntWalk.i64_in _ (by omega)
              have hw2 : IntKind.i64.wrap ((i : Int) + 1) = (i : Int) + 1 := IntWalk.i64_in _ (by omega)
              clear HSI hs7 hv1 hv2 HEV hln n1 n2 hsc hD3 hln3 k9 o9 own9 hB9 k8 o8 own8 hB8 hI9 hb9
              cases s
              · have hpi : (pl : Int) = 2 + 2 * (c : Int) + 1 := by rw [← hpls]; unfold blkN; simp
                simp only [hpi] at ca1 ca2
                clear hpls hpi
                go_upto_region 33 with fail
                have HFI2 := HFI
                clear HFI
                generalize w9.setCell ⟨gf, c, none⟩ (.bool true) = wz at *
                clear z0 p0 p2
                go_wp2_with fail
                go_roundw
                case rel => exact ⟨i + 1, seq + 1, _, _, by omega, by omega, by go_num, ⟨⟨HFI2.out.1.i.dk, HFI2.out.1.i.le, HFI2.out.1.i.bd.mono (by omega)⟩, HFI2.out.1.p, HFI2.out.1.k, HFI2.out.1.hg, HFI2.out.1.hgp⟩, HFI2.out.2.1, HX.out.1, HX.out.2, HFI2.out.2.2⟩
                case measure => simp [intOf]; omega
              · have hpi : (pl : Int) = 2 + 2 * (c : Int) := by rw [← hpls]; unfold blkN; simp
                simp only [hpi] at ca1 ca2
                clear hpls hpi
                go_upto_region 33 with fail
                have HFI2 := HFI
                clear HFI
                generalize w9.setCell ⟨gf, c, none⟩ (.bool true) = wz at *
                clear z0 p0 p2
                go_wp2_with fail
                go_roundw
                case rel => exact ⟨i + 1, seq + 1, _, _, by omega, by omega, by go_num, ⟨⟨HFI2.out.1.i.dk, HFI2.out.1.i.le, HFI2.out.1.i.bd.mono (by omega)⟩, HFI2.out.1.p, HFI2.out.1.k, HFI2.out.1.hg, HFI2.out.1.hgp⟩, HFI2.out.2.1, HX.out.1, HX.out.2, HFI2.out.2.2⟩
                case measure => simp [intOf]; omega
          · have HW := Lib.hid hBr
            clear hBr kr or_
            by_cases q0 : (i : Int) < (l0 : Int)
            case' pos => have q1 : ¬ (i : Int) < 40 := fun h => hend ⟨q0, h⟩
            all_goals
              clear hend
              go_wp2_with fail
              refine (c_awake12 _).mono ?_
              rintro e w8 ⟨rfl, hb8⟩
              go_wp2_with fail
              go_ret
              exact ⟨rfl, below_two HW.out hb8⟩
theorem w_BankTurns (a0 : Int) (a1 : Option Addr) (len1 cap1 : Nat) (z1 : List Int) (w : World) (w0 : (Lit.int .i64 a0).wf = true) (w1 : IsRow .i64 w a1 len1 cap1 z1) :
    Calls Try.prog 14 #[.int .i64 a0, .slice a1 len1 cap1] w fun e w' => e = .returned (.bool true) ∧ Below w.heap.size w w' := by
  rcases w1 with ⟨rfl, rfl, rfl, rfl⟩ | ⟨x, rfl, hl, hm, hz, hc, hw⟩
  · exact w_btur0 a0 none 0 0 [] w (Rd.nil_ _ _) (fun x hx => by cases hx)
  · refine w_btur0 a0 (some x) len1 cap1 (z1.take len1) w ⟨by simp [iv]; omega, fun _ => ⟨x, rfl, fun j v hv => ?_⟩⟩ (fun y hy => hw y (List.mem_of_mem_take hy))
    rw [iv_get, List.getElem?_take] at hv
    split at hv
    · rename_i hj
      have hj' : j < z1.length := by omega
      rw [List.getElem?_eq_getElem hj'] at hv
      cases hv
      have := hc j hj'
      rwa [List.getD_eq_getElem?_getD, List.getElem?_eq_getElem hj'] at this
    · cases hv
end Go.Proofs.Ytmdmhjcdaejlkaa
