/- The bank: Commit. -/
import Derived.Test.YtmdmhjcdaejlkaaBankB
set_option linter.unusedVariables false
set_option linter.unusedSimpArgs false
namespace Go.Proofs.Ytmdmhjcdaejlkaa
open Go.RowKit

variable {W : World} {base b n g gB gp at_ boot seq : Nat} {D : Dk} {key : List UInt8} {l : List (Bool × Bool)}
def cmP (p : Bool × Bool) : Bool × Bool := (p.1 != p.2, false)
theorem cm_step (l : List (Bool × Bool)) (k : Nat) (s f : Bool) (h : l[k]? = some (s, f)) : (((l.take k).map cmP ++ l.drop k).set k (s != f, false)) = (l.take (k + 1)).map cmP ++ l.drop (k + 1) := by
  have hk : k < l.length := by
    rcases Nat.lt_or_ge k l.length with c | c
    · exact c
    · rw [List.getElem?_eq_none c] at h; cases h
  apply List.ext_getElem?
  intro j
  rw [List.getElem?_set]
  have hl : ((l.take k).map cmP).length = k := by rw [List.length_map, List.length_take]; omega
  have hl2 : ((l.take (k + 1)).map cmP).length = k + 1 := by rw [List.length_map, List.length_take]; omega
  split
  · rename_i e
    subst e
    rw [if_pos (by rw [List.length_append, hl, List.length_drop]; omega), List.getElem?_append_left (by omega), List.getElem?_map, List.getElem?_take, if_pos (by omega), h]
    rfl
  · rcases Nat.lt_or_ge j k with c | c
    · rw [List.getElem?_append_left (by omega), List.getElem?_append_left (by omega), List.getElem?_map, List.getElem?_map, List.getElem?_take, List.getElem?_take, if_pos c, if_pos (by omega)]
    · rw [List.getElem?_append_right (by omega), List.getElem?_append_right (by omega), hl, hl2, List.getElem?_drop, List.getElem?_drop]
      congr 1
      omega
set_option maxHeartbeats 4000000 in
set_option maxRecDepth 100000 in
theorem c_bkCommit (h : BankAt W gB gp g at_ l) (hP : PenAt W g b key boot seq) (hI : In W base b D n) (hgp : base ≤ gp) (hll : l.length ≤ 100000) :
    Calls Try.prog 53 #[.pointer (some ⟨gB, 0, none⟩)] W fun e w' => e = .returned (.tuple #[]) ∧ In w' base b D n ∧ BankAt w' gB gp g at_ (l.map cmP) ∧ PenAt w' g b key boot seq ∧ PX [gp] base W w' := by
  obtain ⟨N, hN⟩ : ∃ N, l.length = N := ⟨_, rfl⟩
  rw [hN] at hll
  have c2 : W.cell? ⟨gB, 2, none⟩ = some (.slice (some ⟨gp, 0, none⟩) N N) := by rw [← hN]; exact h.row.cell 2 rfl
  have H0 := Lib.hid h
  have HP0 := Lib.hid hP
  have HI0 := Lib.hid hI
  have hle := hI.le
  have hpx0 : PX [gp] base W W := ⟨Below.refl _ _, fun _ _ _ h _ _ => h⟩
  clear h hP hI
  go_enter Try.func53, Try.ntmps53
  go_upto_region 1 with fail
  go_loopw [9] (fun s9 wr => ∃ k : Nat, k ≤ N ∧ s9 = .int .i64 (k : Int) ∧ In wr base b D n ∧ BankAt wr gB gp g at_ ((l.take k).map cmP ++ l.drop k) ∧ PenAt wr g b key boot seq ∧ PX [gp] base W wr) (fun s9 _ => (N - intOf s9).toNat)
  case atStart => exact ⟨0, Nat.zero_le _, rfl, HI0.out, by simpa using H0.out, HP0.out, hpx0⟩
  case round =>
    clear hpx0
    obtain ⟨k, hk, rfl, hI, h, hP, hpx⟩ := hrel
    by_cases hlt : k < N
    · have hlt2 : (k : Int) < (N : Int) := by omega
      obtain ⟨⟨s, f⟩, hsf⟩ : ∃ p, l[k]? = some p := ⟨_, List.getElem?_eq_getElem (by omega)⟩
      have hget : ((l.take k).map cmP ++ l.drop k)[k]? = some (s, f) := by
        rw [List.getElem?_append_right (by rw [List.length_map, List.length_take]; omega), List.length_map, List.length_take, Nat.min_eq_left (by omega), Nat.sub_self, List.getElem?_drop, Nat.add_zero]
        exact hsf
      have hstep := cm_step l k s f hsf
      have hlen : ((l.take k).map cmP ++ l.drop k).length = N := by rw [List.length_append, List.length_map, List.length_take, List.length_drop]; omega
      have HS := Lib.hid (And.intro hstep (And.intro hget hlen))
      clear hstep hsf
      generalize (l.take k).map cmP ++ l.drop k = lk at *
      have p0 : wr.cell? ⟨gp, k * 2, none⟩ = some (.bool s) := by rw [Nat.mul_comm]; exact h.pl.cell (2 * k) (by simp [pcs_get0, hget])
      have p1 : wr.cell? ⟨gp, k * 2 + 1, none⟩ = some (.bool f) := by rw [Nat.mul_comm]; exact h.pl.cell (2 * k + 1) (by simp [pcs_get1, hget])
      clear hget hlen
      go_upto_region 3 with fail
      have hb4 := below_alloc (Below.refl wr.heap.size wr) (.cells #[.bool s, .bool f] 117)
      have r4 := Row.new wr #[.bool s, .bool f] 117
      have h4 := h.up hb4
      have hP4 := hP.below hb4 hP.lt
      have hI4 := hI.below hb4
      have hpx4 := hpx.trans (PX.of_below hb4 hI.le)
      clear p0 p1 h hP hI hpx hb4
      generalize wr.alloc (.cells #[.bool s, .bool f] 117) = w4 at *
      generalize wr.heap.size = gq at *
      have k0 : w4.drew.cell? ⟨gB, 2, none⟩ = some (.slice (some ⟨gp, 0, none⟩) N N) := by rw [← HS.out.2.2]; exact h4.row.cell 2 rfl
      have k1 : w4.drew.cell? ⟨gq, 0, none⟩ = some (.bool s) := r4.cell 0 rfl
      have k2 : w4.drew.cell? ⟨gq, 1, none⟩ = some (.bool f) := r4.cell 1 rfl
      have p0 : w4.drew.cell? ⟨gp, k * 2, none⟩ = some (.bool s) := by rw [Nat.mul_comm]; exact h4.pl.cell (2 * k) (by simp [pcs_get0, HS.out.2.1])
      have p1 : w4.drew.cell? ⟨gp, k * 2 + 1, none⟩ = some (.bool f) := by rw [Nat.mul_comm]; exact h4.pl.cell (2 * k + 1) (by simp [pcs_get1, HS.out.2.1])
      have z0 : ∀ j, w4.drew.frozen? ⟨gp, j, none⟩ = false := fun j => h4.pl.free j
      have hneq : k * 2 ≠ k * 2 + 1 := by omega
      obtain ⟨x, hx⟩ : ∃ x, (!(s == f)) = x := ⟨_, rfl⟩
      have p1b : w4.cell? ⟨gp, k * 2 + 1, none⟩ = some (.bool f) := p1
      have z0b : ∀ j, w4.frozen? ⟨gp, j, none⟩ = false := fun j => h4.pl.free j
      (refine wp_region_linN (KpP) (KpP) (wayKpP) (wayKpP) (fun _ _ h => h) (.free 0 (.free 1 (.free 2 (.hot 3 (.free 4 (.free 5 (.hot 6 (.free 7 (.hot 8 (.free 9 (.free 10 (.free 11 (.op 12 [(3, 12), (6, 12), (8, 12)] [] [] .nil))))))))))))) rfl (by kernel_rfl) (by kernel_rfl) (fun _ _ _ _ _ h => h) ?_; (first | (apply linN_free; (simp only [List.getElem?_toArray, List.getElem?_cons_succ, List.getElem?_cons_zero]; rfl); (rfl); (intro w'; (first | (go_simp; done) | (go_simp; with_reducible rfl) | (go_simp; go_bits; with_reducible rfl) | (go_simp; go_bits; done))); try simp only [Act.put, List.setIfInBounds_toArray, List.set_cons_zero, List.set_cons_succ]) | (apply linN_freeSkip; (simp only [List.getElem?_toArray, List.getElem?_cons_succ, List.getElem?_cons_zero]; rfl); (rfl); try simp only [Act.put, List.setIfInBounds_toArray, List.set_cons_zero, List.set_cons_succ])); (first | (apply linN_free; (simp only [List.getElem?_toArray, List.getElem?_cons_succ, List.getElem?_cons_zero]; rfl); (rfl); (intro w'; (first | (go_simp; done) | (go_simp; with_reducible rfl) | (go_simp; go_bits; with_reducible rfl) | (go_simp; go_bits; done))); try simp only [Act.put, List.setIfInBounds_toArray, List.set_cons_zero, List.set_cons_succ]) | (apply linN_freeSkip; (simp only [List.getElem?_toArray, List.getElem?_cons_succ, List.getElem?_cons_zero]; rfl); (rfl); try simp only [Act.put, List.setIfInBounds_toArray, List.set_cons_zero, List.set_cons_succ])); (first | (apply linN_free; (simp only [List.getElem?_toArray, List.getElem?_cons_succ, List.getElem?_cons_zero]; rfl); (rfl); (intro w'; (first | (go_simp; done) | (go_simp; with_reducible rfl) | (go_simp; go_bits; with_reducible rfl) | (go_simp; go_bits; done))); try simp only [Act.put, List.setIfInBounds_toArray, List.set_cons_zero, List.set_cons_succ]) | (apply linN_freeSkip; (simp only [List.getElem?_toArray, List.getElem?_cons_succ, List.getElem?_cons_zero]; rfl); (rfl); try simp only [Act.put, List.setIfInBounds_toArray, List.set_cons_zero, List.set_cons_succ])); (first | (apply linN_hot; (simp only [List.getElem?_toArray, List.getElem?_cons_succ, List.getElem?_cons_zero]; rfl); (rfl); (intro w' hb'; (try have k_k0 := kpP_cell hb' k0); (try have k_k1 := kpP_cell hb' k1); (try have k_k2 := kpP_cell hb' k2); (try have k_p0 := kpP_cell hb' p0); (try have k_p1 := kpP_cell hb' p1); (first | (go_simp; done) | (go_simp; with_reducible rfl) | (go_simp; go_bits; with_reducible rfl) | (go_simp; go_bits; done))); try simp only [Act.put, List.setIfInBounds_toArray, List.set_cons_zero, List.set_cons_succ]) | (apply linN_hotSkip; (simp only [List.getElem?_toArray, List.getElem?_cons_succ, List.getElem?_cons_zero]; rfl); (rfl); try simp only [Act.put, List.setIfInBounds_toArray, List.set_cons_zero, List.set_cons_succ])); (first | (apply linN_free; (simp only [List.getElem?_toArray, List.getElem?_cons_succ, List.getElem?_cons_zero]; rfl); (rfl); (intro w'; (first | (go_simp; done) | (go_simp; with_reducible rfl) | (go_simp; go_bits; with_reducible rfl) | (go_simp; go_bits; done))); try simp only [Act.put, List.setIfInBounds_toArray, List.set_cons_zero, List.set_cons_succ]) | (apply linN_freeSkip; (simp only [List.getElem?_toArray, List.getElem?_cons_succ, List.getElem?_cons_zero]; rfl); (rfl); try simp only [Act.put, List.setIfInBounds_toArray, List.set_cons_zero, List.set_cons_succ])); (first | (apply linN_free; (simp only [List.getElem?_toArray, List.getElem?_cons_succ, List.getElem?_cons_zero]; rfl); (rfl); (intro w'; (first | (go_simp; done) | (go_simp; with_reducible rfl) | (go_simp; go_bits; with_reducible rfl) | (go_simp; go_bits; done))); try simp only [Act.put, List.setIfInBounds_toArray, List.set_cons_zero, List.set_cons_succ]) | (apply linN_freeSkip; (simp only [List.getElem?_toArray, List.getElem?_cons_succ, List.getElem?_cons_zero]; rfl); (rfl); try simp only [Act.put, List.setIfInBounds_toArray, List.set_cons_zero, List.set_cons_succ])); (first | (apply linN_hot; (simp only [List.getElem?_toArray, List.getElem?_cons_succ, List.getElem?_cons_zero]; rfl); (rfl); (intro w' hb'; (try have k_k0 := kpP_cell hb' k0); (try have k_k1 := kpP_cell hb' k1); (try have k_k2 := kpP_cell hb' k2); (try have k_p0 := kpP_cell hb' p0); (try have k_p1 := kpP_cell hb' p1); (first | (go_simp; done) | (go_simp; with_reducible rfl) | (go_simp; go_bits; with_reducible rfl) | (go_simp; go_bits; done))); try simp only [Act.put, List.setIfInBounds_toArray, List.set_cons_zero, List.set_cons_succ]) | (apply linN_hotSkip; (simp only [List.getElem?_toArray, List.getElem?_cons_succ, List.getElem?_cons_zero]; rfl); (rfl); try simp only [Act.put, List.setIfInBounds_toArray, List.set_cons_zero, List.set_cons_succ])); (first | (apply linN_free; (simp only [List.getElem?_toArray, List.getElem?_cons_succ, List.getElem?_cons_zero]; rfl); (rfl); (intro w'; (first | (go_simp; done) | (go_simp; with_reducible rfl) | (go_simp; go_bits; with_reducible rfl) | (go_simp; go_bits; done))); try simp only [Act.put, List.setIfInBounds_toArray, List.set_cons_zero, List.set_cons_succ]) | (apply linN_freeSkip; (simp only [List.getElem?_toArray, List.getElem?_cons_succ, List.getElem?_cons_zero]; rfl); (rfl); try simp only [Act.put, List.setIfInBounds_toArray, List.set_cons_zero, List.set_cons_succ])); (first | (apply linN_hot; (simp only [List.getElem?_toArray, List.getElem?_cons_succ, List.getElem?_cons_zero]; rfl); (rfl); (intro w' hb'; (try have k_k0 := kpP_cell hb' k0); (try have k_k1 := kpP_cell hb' k1); (try have k_k2 := kpP_cell hb' k2); (try have k_p0 := kpP_cell hb' p0); (try have k_p1 := kpP_cell hb' p1); (first | (go_simp; done) | (go_simp; with_reducible rfl) | (go_simp; go_bits; with_reducible rfl) | (go_simp; go_bits; done))); try simp only [Act.put, List.setIfInBounds_toArray, List.set_cons_zero, List.set_cons_succ]) | (apply linN_hotSkip; (simp only [List.getElem?_toArray, List.getElem?_cons_succ, List.getElem?_cons_zero]; rfl); (rfl); try simp only [Act.put, List.setIfInBounds_toArray, List.set_cons_zero, List.set_cons_succ])); (first | (apply linN_free; (simp only [List.getElem?_toArray, List.getElem?_cons_succ, List.getElem?_cons_zero]; rfl); (rfl); (intro w'; (first | (go_simp; done) | (go_simp; with_reducible rfl) | (go_simp; go_bits; with_reducible rfl) | (go_simp; go_bits; done))); try simp only [Act.put, List.setIfInBounds_toArray, List.set_cons_zero, List.set_cons_succ]) | (apply linN_freeSkip; (simp only [List.getElem?_toArray, List.getElem?_cons_succ, List.getElem?_cons_zero]; rfl); (rfl); try simp only [Act.put, List.setIfInBounds_toArray, List.set_cons_zero, List.set_cons_succ])); (first | (apply linN_free; (simp only [List.getElem?_toArray, List.getElem?_cons_succ, List.getElem?_cons_zero]; rfl); (rfl); (intro w'; (first | (go_simp; done) | (go_simp; with_reducible rfl) | (go_simp; go_bits; with_reducible rfl) | (go_simp; go_bits; done))); try simp only [Act.put, List.setIfInBounds_toArray, List.set_cons_zero, List.set_cons_succ]) | (apply linN_freeSkip; (simp only [List.getElem?_toArray, List.getElem?_cons_succ, List.getElem?_cons_zero]; rfl); (rfl); try simp only [Act.put, List.setIfInBounds_toArray, List.set_cons_zero, List.set_cons_succ])); (first | (apply linN_free; (simp only [List.getElem?_toArray, List.getElem?_cons_succ, List.getElem?_cons_zero]; rfl); (rfl); (intro w'; (first | (go_simp; done) | (go_simp; with_reducible rfl) | (go_simp; go_bits; with_reducible rfl) | (go_simp; go_bits; done))); try simp only [Act.put, List.setIfInBounds_toArray, List.set_cons_zero, List.set_cons_succ]) | (apply linN_freeSkip; (simp only [List.getElem?_toArray, List.getElem?_cons_succ, List.getElem?_cons_zero]; rfl); (rfl); try simp only [Act.put, List.setIfInBounds_toArray, List.set_cons_zero, List.set_cons_succ])); (first | (apply linN_pass (wayKpP) (wayKpP); (simp only [List.getElem?_toArray, List.getElem?_cons_succ, List.getElem?_cons_zero]; rfl); (rfl); try simp only [Act.put, List.setIfInBounds_toArray, List.set_cons_zero, List.set_cons_succ]) | (apply linN_op; (simp only [List.getElem?_toArray, List.getElem?_cons_succ, List.getElem?_cons_zero]; rfl); (rfl); intro K hK; (first | (go_simp; (first | skip))); refine hK _ _ ?_ ?_; (exact trivial); clear hK; try simp only [Act.put, List.setIfInBounds_toArray, List.set_cons_zero, List.set_cons_succ])); refine linN_end ?_)
      have hne := h4.neP hP4.row
      have h5 : BankAt ((w4.setCell ⟨gp, k * 2, none⟩ (.bool x)).setCell ⟨gp, k * 2 + 1, none⟩ (.bool false)).drew gB gp g at_ ((l.take (k + 1)).map cmP ++ l.drop (k + 1)) := by
        refine ⟨?_, ?_⟩
        · rw [← HS.out.1, List.length_set]
          exact (h4.row.set_other _ _ h4.ne).set_other _ _ h4.ne
        · have := (h4.pl.set (k * 2) (.bool x)).set (k * 2 + 1) (.bool false)
          rw [List.setIfInBounds_toArray, List.setIfInBounds_toArray, Nat.mul_comm k 2, pcs_set0, pcs_set1, List.getElem?_set] at this
          rw [Nat.mul_comm k 2]
          have hkl : k < lk.length := by have := HS.out.2.2; omega
          rw [if_pos rfl, if_pos hkl, List.set_set] at this
          rw [← HS.out.1, show (s != f) = x from hx]
          exact this
      have hI5 : In ((w4.setCell ⟨gp, k * 2, none⟩ (.bool x)).setCell ⟨gp, k * 2 + 1, none⟩ (.bool false)).drew base b D n := ((hI4.set h4.pl _ (by decide) hgp).set (h4.pl.set (k * 2) (.bool x)) _ (by decide) hgp).below (below_drew (Below.refl _ _))
      have hP5 : PenAt ((w4.setCell ⟨gp, k * 2, none⟩ (.bool x)).setCell ⟨gp, k * 2 + 1, none⟩ (.bool false)).drew g b key boot seq := by
        have := (hP4.set (j := k * 2) (.bool x) (Ne.symm hne.2)).set (j := k * 2 + 1) (.bool false) (Ne.symm hne.2)
        exact ⟨this.row, this.kl, this.bl⟩
      have hpx5 : PX [gp] base W ((w4.setCell ⟨gp, k * 2, none⟩ (.bool x)).setCell ⟨gp, k * 2 + 1, none⟩ (.bool false)).drew := by
        have := (hpx4.trans (PX.set (j := k * 2) (v := .bool x) hgp (by simp))).trans (PX.set (j := k * 2 + 1) (v := .bool false) hgp (by simp))
        exact ⟨below_drew this.1, this.2⟩
      have HH := Lib.hid (And.intro h5 (And.intro hI5 (And.intro hP5 hpx5)))
      clear h5 hI5 hP5 hpx5 h4 hI4 hP4 hpx4 p0 p1 p1b z0 z0b k0 k1 k2 r4 HS hne
      generalize ((w4.setCell ⟨gp, k * 2, none⟩ (.bool x)).setCell ⟨gp, k * 2 + 1, none⟩ (.bool false)).drew = w5 at *
      go_wp2
      refine ⟨?rel, ?measure⟩
      case rel => exact ⟨k + 1, by omega, by go_num, HH.out.2.1, HH.out.1, HH.out.2.2.1, HH.out.2.2.2⟩
      case measure => simp [intOf]; omega
    · obtain rfl : k = N := by omega
      rw [← hN, List.take_length, List.drop_length, List.append_nil] at h
      go_wp2
      exact ⟨rfl, _, by simp [results, Try.results53], rfl, hI, h, hP, hpx⟩
end Go.Proofs.Ytmdmhjcdaejlkaa
