/- Contracts of the device: Cut, Stable, Blocks, Size, Trace. -/
import Derived.Test.YtlbpmboknmbcgaaDiskL
set_option linter.unusedVariables false
set_option linter.unusedSimpArgs false
namespace Go.Proofs.Ytlbpmboknmbcgaa
open Go.RowKit

def Dk.cut (D : Dk) (n : Int) : Dk := { D with after := max n (-1) }
theorem c_cut (W : World) (base b : Nat) (D : Dk) (n : Int) (h : DiskAt W base b D) :
    Calls Try.prog 24 #[.pointer (some ⟨b, 0, none⟩), .int .i64 n] W fun e w' => e = .returned (.tuple #[]) ∧ DiskAt w' base b (D.cut n) ∧ DR dTy base W w' := by
  obtain ⟨mS, mN, lv, tv, hD⟩ := h.parts
  have hrow := hD.row
  have c5 := hrow.cell 5 rfl
  have fz := hrow.free 5
  have hu5 := upd_cell (j := 5) hrow (.int .i64 (max n (-1)))
  have ht := disk_turn (D := D.cut n) hrow hu5 hD.hb hD.st hD.nw hD.lo hD.tr
  have fin : DiskAt (W.setCell ⟨b, 5, none⟩ (.int .i64 (max n (-1)))) base b (D.cut n) ∧ DR dTy base W (W.setCell ⟨b, 5, none⟩ (.int .i64 (max n (-1)))) :=
    ⟨⟨⟨mS, mN, lv, tv, hu5.row, hD.hb, hD.hS, hD.hN, hD.ne, ht.2.1, ht.2.2.1, ht.2.2.2.1, ht.2.2.2.2⟩⟩, ht.1⟩
  generalize D.cut n = D' at *
  clear hu5 ht hrow hD h
  by_cases hn : n < -1
  · rw [show max n (-1) = -1 by omega] at fin
    go_enter Try.func24, Try.ntmps24
    go_wp2
    exact bodyPost_end (by simp [results, Try.results24]) rfl ⟨rfl, fin⟩
  · rw [show max n (-1) = n by omega] at fin
    go_enter Try.func24, Try.ntmps24
    go_wp2
    exact bodyPost_end (by simp [results, Try.results24]) rfl ⟨rfl, fin⟩
theorem c_stable (W : World) (base b : Nat) (D : Dk) (at_ : Int) (h : DiskAt W base b D) (hk : DkOk D) (hat : (Lit.int .i64 at_).wf = true) :
    Calls Try.prog 22 #[.pointer (some ⟨b, 0, none⟩), .int .i64 at_] W fun e w' => ∃ v, e = .returned v ∧ OwnB w' W.heap.size 5 v (D.at_ D.stable at_) ∧ Below W.heap.size W w' := by
  obtain ⟨mS, mN, lv, tv, hD⟩ := h.parts
  have c2 := hD.row.cell 2 rfl
  have hc := c_dBlock W base b mS D.cS D D.stable at_ h hD.st hk hat
  clear hD hat h
  go_enter Try.func22, Try.ntmps22
  go_wp2_with fail
  refine hc.mono ?_
  rintro e w' ⟨v, rfl, ho, hb⟩
  go_wp2
  go_ret
  exact ⟨_, rfl, ho, hb⟩
theorem c_blocks (W : World) (base b : Nat) (D : Dk) (h : DiskAt W base b D) : Calls Try.prog 35 #[.pointer (some ⟨b, 0, none⟩)] W fun e w' => e = .returned (.int .i64 D.blocks) ∧ W = w' := by
  obtain ⟨mS, mN, lv, tv, hD⟩ := h.parts
  have c0 := hD.row.cell 0 rfl
  clear hD h
  go_enter Try.func35, Try.ntmps35
  go_wp2
  go_ret
  exact ⟨rfl, rfl⟩
theorem c_size (W : World) (base b : Nat) (D : Dk) (h : DiskAt W base b D) : Calls Try.prog 36 #[.pointer (some ⟨b, 0, none⟩)] W fun e w' => e = .returned (.int .i64 D.size) ∧ W = w' := by
  obtain ⟨mS, mN, lv, tv, hD⟩ := h.parts
  have c0 := hD.row.cell 1 rfl
  clear hD h
  go_enter Try.func36, Try.ntmps36
  go_wp2
  go_ret
  exact ⟨rfl, rfl⟩
/-! ### Trace -/
theorem evC_14 (k a : Int) (hd : List UInt8) (u : Value) (h : hd.length = 12) : (evC k a hd u).toArray[14]? = some u := by
  unfold evC
  rw [List.getElem?_toArray, List.getElem?_append_right (by simp [bv_length, h])]
  simp [bv_length, h]
theorem evC_set (k a : Int) (hd : List UInt8) (u u' : Value) (h : hd.length = 12) : (evC k a hd u).toArray.setIfInBounds 14 u' = (evC k a hd u').toArray := by
  unfold evC
  rw [List.setIfInBounds_toArray, List.set_append_right _ _ (by simp [bv_length, h])]
  simp [bv_length, h]
theorem wpl_storeEv {ops : Array Oper} {rest : List Oper} {o : Oper} {a : Act} {w : World} {Q : Exit → Act → World → Prop} {x y : Operand} {t : TypeId} {old : Array Value} {g : Nat} {k at_ : Int} {hd : List UInt8} {A : Option Addr} {n c : Nat}
    (hgd : o.guard = none) (ho : o.op = .store 32 x y) (hx : a.eval x = .pointer (some ⟨g, 0, none⟩)) (hg : w.heap.size = g) (hy : a.eval y = .agg (evC k at_ hd (.slice A n c)).toArray) (hh : hd.length = 12) (hold : old.size = 15)
    (h : wpList Try.prog ops Q rest (a.put o.dst undef) (w.alloc (.cells (evC k at_ hd (.slice A n c)).toArray t))) : wpList Try.prog ops Q (o :: rest) a (w.alloc (.cells old t)) :=
  wpl_storeN hgd ho hx hg hy (by rw [List.size_toArray, evC_len _ _ _ _ hh]; kernel_rfl) (hold.trans (by rw [List.size_toArray, evC_len _ _ _ _ hh])) (by
    rw [Array.all_eq_true_iff_forall_mem]
    intro v hv
    exact evC_one k at_ hd A n c v (by simpa using hv)) h
theorem wpl_buildOne {P : Program} {ops : Array Oper} {rest : List Oper} {o : Oper} {a : Act} {w : World} {Q : Exit → Act → World → Prop} {t e : TypeId} {x : Operand} {vs : List Value} {z : Value} {size : Nat} (hgd : o.guard = none) (ho : o.op = .buildSlice t 1 #[(0, x)])
    (hu : P.underlying t = some (.slice e)) (hi : (P.info? e).map (fun i => (i.zero, i.size)) = some (some z, size)) (hs : 0 < size ∧ size < 1000000) (hx : a.eval x = .agg vs.toArray) (hl : vs.length = size)
    (h : wpList P ops Q rest (a.put o.dst (.slice (some ⟨w.heap.size, 0, none⟩) 1 1)) (w.alloc (.cells vs.toArray e))) : wpList P ops Q (o :: rest) a w :=
  wpList_plain hgd fun _ hK => wp_buildOne ho hu hi hs hx hl (hK _ _ h)
theorem flatMap_evs : ∀ (l : List Ev) (vs : List Value) (j i : Nat) (x : Ev) (u : Value), (∀ (k : Nat) (y : Ev), l[k]? = some y → y.head.length = 12) → l[j]? = some x → vs[j]? = some u → i < 15 → ((l.zip vs).flatMap fun p => evCells p.1 p.2)[15 * j + i]? = (evCells x u)[i]?
  | [], _, _, _, _, _, _, h, _, _ => by cases h
  | _ :: _, [], _, _, _, _, _, _, h, _ => by cases h
  | y :: l, v :: vs, j, i, x, u, hh, hx, hu, hi => by
    have hy : (evCells y v).length = 15 := evC_len _ _ _ _ (hh 0 y rfl)
    rw [List.zip_cons_cons, List.flatMap_cons]
    cases j with
    | zero =>
      cases hx
      cases hu
      rw [List.getElem?_append_left (by rw [hy]; omega), Nat.mul_zero, Nat.zero_add]
    | succ j =>
      rw [List.getElem?_append_right (by rw [hy, Nat.mul_succ]; omega), hy, show 15 * (j + 1) + i - 15 = 15 * j + i by omega]
      exact flatMap_evs l vs j i x u (fun k z hk => hh (k + 1) z hk) hx hu hi
theorem TraceAt.elem {W : World} {base : Nat} {tv : Value} {l : List Ev} (h : TraceAt W base tv l) {j : Nat} {x : Ev} (hx : l[j]? = some x) :
    ∃ g cap A n c, tv = .slice (some ⟨g, 0, none⟩) l.length cap ∧ x.head.length = 12 ∧ BytesAt W base (.slice A n c) x.body ∧ ∀ i v, (evC x.kind x.at_ x.head (.slice A n c))[i]? = some v → W.cell? ((⟨g, j * 15, none⟩ : Addr).add i) = some v := by
  obtain ⟨vs, a1, a2, a3⟩ := h
  have hj : j < l.length := (List.getElem?_eq_some_iff.1 hx).1
  rcases a3.2 with ⟨_, h0⟩ | ⟨g, cap, cur, rfl, _⟩
  · omega
  · have hu : vs[j]? = some vs[j] := List.getElem?_eq_getElem (by omega)
    obtain ⟨b1, b2⟩ := a2 j _ x hu hx
    have hb := b1
    obtain ⟨A, c, e, _⟩ := b1
    rw [e] at hb hu
    refine ⟨g, cap, A, _, c, rfl, b2, hb, fun i v hv => ?_⟩
    have hi : i < 15 := by
      rcases Nat.lt_or_ge i 15 with h | h
      · exact h
      · rw [List.getElem?_eq_none (by rw [evC_len _ _ _ _ b2]; exact h)] at hv; cases hv
    have hz : (l.zip vs)[j]? = some (x, .slice A x.body.length c) := by rw [List.getElem?_zip_eq_some]; exact ⟨hx, hu⟩
    have hflat : ((l.zip vs).flatMap fun p => evCells p.1 p.2)[15 * j + i]? = some v := by
      rw [flatMap_evs l vs j i x _ (fun k y hk => ?_) hx hu hi]
      · exact hv
      · have hkv : vs[k]? = some vs[k]! := by
          have : k < vs.length := by rw [a1]; exact (List.getElem?_eq_some_iff.1 hk).1
          rw [List.getElem?_eq_getElem this, List.getElem!_eq_getElem?_getD, List.getElem?_eq_getElem this]; rfl
        exact (a2 k _ y hkv hk).2
    have hc := World.ownsRow.cells a3 (g := g) rfl (15 * j + i) v hflat
    rw [ad_none] at hc ⊢
    rw [Nat.zero_add] at hc
    rw [Nat.mul_comm j 15]
    exact hc
theorem own_heap {W W' : World} {B n : Nat} {e : TypeId} {size : Nat} {v : Value} {xs : List Value} (h : W.ownsRow B e size v n xs) (hk : ∀ g, v.ownBlock = some g → W'.heap[g]? = W.heap[g]?) : W'.ownsRow B e size v n xs := by
  refine ⟨h.1, ?_⟩
  rcases h.2 with h | ⟨g, cap, cur, rfl, hg, hh, r⟩
  · exact .inl h
  · exact .inr ⟨g, cap, cur, rfl, hg, (hk g rfl).trans hh, r⟩
theorem own_lt {W : World} {B n : Nat} {e : TypeId} {size : Nat} {v : Value} {xs : List Value} (h : W.ownsRow B e size v n xs) : ∀ g, v.ownBlock = some g → g < W.heap.size := by
  intro g' hv
  rcases h.2 with ⟨rfl, _⟩ | ⟨g, cap, cur, rfl, hg, hh, r⟩
  · simp [Value.ownBlock] at hv
  · simp [Value.ownBlock] at hv
    subst hv
    exact (Array.getElem?_eq_some_iff.1 hh).1
set_option maxHeartbeats 4000000 in
set_option maxRecDepth 100000 in
theorem c_trace (W : World) (base b : Nat) (D : Dk) (h : DiskAt W base b D) (hk : DkOk D) (hbl : ∀ e ∈ D.trace, e.body.length ≤ 60000) :
    Calls Try.prog 23 #[.pointer (some ⟨b, 0, none⟩)] W fun e w' => ∃ v, e = .returned v ∧ TraceAt w' W.heap.size v D.trace ∧ Below W.heap.size W w' := by
  obtain ⟨mS, mN, lv, tv, hD⟩ := h.parts
  have c7 := hD.row.cell 7 rfl
  have htr := hD.tr
  have hln := hk.ln
  generalize D.trace = l at *
  have hform : ∃ A c, tv = .slice A l.length c := by
    obtain ⟨vs, a1, a2, a3⟩ := htr
    obtain ⟨A, c, e, -, -⟩ := own_form a3
    exact ⟨A, c, e⟩
  obtain ⟨A, c, rfl⟩ := hform
  clear hD hk h
  go_enter Try.func23, Try.ntmps23
  go_wp2
  go_loopw [3, 11] (fun v i wr => ∃ j : Nat, j ≤ l.length ∧ i = .int .i64 (j : Int) ∧ TraceAt wr W.heap.size v (l.take j) ∧ Below W.heap.size W wr) (fun _ i _ => l.length - (intOf i).toNat)
  case atStart => exact ⟨0, Nat.zero_le _, rfl, ⟨[], rfl, fun k u x h => by simp at h, ⟨by simp, .inl ⟨rfl, rfl⟩⟩⟩, Below.refl _ _⟩
  case round =>
    obtain ⟨j, hj, rfl, ho, hb⟩ := hrel
    have hs := hb.size
    clear c7
    by_cases hlt : j < l.length
    · have hx : l[j]? = some l[j] := List.getElem?_eq_getElem hlt
      have hbx := hbl _ (List.getElem_mem hlt)
      have htk : l.take (j + 1) = l.take j ++ [l[j]] := by rw [List.take_add_one, hx]; rfl
      generalize l[j] = x at *
      obtain ⟨g, cap, Au, nu, cu, htv, hh, hu, hce⟩ := htr.elem hx
      simp only [Value.slice.injEq] at htv
      obtain ⟨rfl, -, rfl⟩ := htv
      obtain ⟨k, a, hd, bo⟩ := x
      have HTK := Lib.hid htk
      clear htk hx
      simp only at hbx hh hu hce
      have hceR : ∀ i v, (evC k a hd (.slice Au nu cu))[i]? = some v → wr.cell? ((⟨g, j * 15, none⟩ : Addr).add i) = some v := fun i v hv => by
        have := hce i v hv
        rw [hb.cell (World.block_lt_of_cell? _ _ this), this]
      obtain ⟨hnu, -⟩ : nu = bo.length ∧ True := by
        obtain ⟨A', c', e, _⟩ := hu
        simp only [Value.slice.injEq] at e
        exact ⟨e.2.1, trivial⟩
      have hru : RdB W Au nu bo := by
        obtain ⟨A', c', e, _, _, hr, _⟩ := hu
        simp only [Value.slice.injEq] at e
        obtain ⟨rfl, rfl, rfl⟩ := e
        exact hr
      subst hnu
      have hruR := hru.below hb (Nat.le_refl _)
      clear hce hu
      go_upto_region 5 with (first | (apply wpl_loadR (ty := 32) (evC k a hd (.slice Au bo.length cu)); rfl; rfl; rfl; kernel_rfl; (rw [evC_len _ _ _ _ hh]; kernel_rfl); exact hceR) | (refine wpl_storeEv (k := k) (at_ := a) (hd := hd) rfl rfl rfl (by first | rfl | simp) rfl hh rfl ?_; simp only [Act.put]))
      have R3 := Row.new wr (evC k a hd (.slice Au bo.length cu)).toArray 32
      have hB3 : Below wr.heap.size wr (wr.alloc (.cells (evC k a hd (.slice Au bo.length cu)).toArray 32)) := below_alloc (Below.refl _ _) _
      have hb3 := hb.trans (hB3.mono hs)
      have hs3 : wr.heap.size < (wr.alloc (.cells (evC k a hd (.slice Au bo.length cu)).toArray 32)).heap.size := by simp
      generalize wr.alloc (.cells (evC k a hd (.slice Au bo.length cu)).toArray 32) = w3 at *
      have ho3 := ho.fr (FR.of_below hB3 hs) (S := []) (M := []) (by simp) (by simp)
      have c14 := R3.cell 14 (evC_14 k a hd _ hh)
      have hru3 := hruR.below hB3 (Nat.le_refl _)
      have hB3k := hB3
      clear hceR hB3
      go_wp2_with fail
      refine (c_clone _ _ _ bo w3 hru3 (by omega)).mono ?_
      rintro e w4 ⟨u, rfl, hou, hb4⟩
      have R4 := R3.below hb4 hs3
      have ho4 := ho3.fr (FR.of_below hb4 (by omega)) (S := []) (M := []) (by simp) (by simp)
      obtain ⟨Au', cu', rfl, -⟩ := hou.form
      have c14' := R4.cell 14 (evC_14 k a hd _ hh)
      have fz14 := R4.free 14
      have R5 := R4.set 14 (.slice Au' bo.length cu')
      rw [evC_set k a hd _ _ hh] at R5
      have hf5 : FR [32] [] W.heap.size w4 (w4.setCell ⟨wr.heap.size, 14, none⟩ (.slice Au' bo.length cu')) := FR.of_upd (upd_cell R4 _) R4 (by decide) hs
      have hs4 := hb4.size
      have hfr34 : FR [] [] W.heap.size wr w4 := (FR.of_below (hB3k) hs).trans (FR.of_below hb4 (by omega))
      obtain ⟨vs, a1, a2, a3⟩ := ho
      have hlt3 := own_lt a3
      have a34 := own_heap a3 (W' := w4.setCell ⟨wr.heap.size, 14, none⟩ (.slice Au' bo.length cu')) (fun g hg => by
        rw [heap_setCell_other _ _ _ _ (by have := hlt3 g hg; show g ≠ wr.heap.size; omega), hb4.block g (by have := hlt3 g hg; omega), hB3k.block g (hlt3 g hg)])
      have a25 : ∀ (k : Nat) u x, vs[k]? = some u → (l.take j)[k]? = some x → BytesAt (w4.setCell ⟨wr.heap.size, 14, none⟩ (.slice Au' bo.length cu')) W.heap.size u x.body ∧ x.head.length = 12 := fun k u x e1 e2 =>
        ⟨((a2 k u x e1 e2).1.keep hfr34.dr (by simp)).keep hf5.dr (by decide), (a2 k u x e1 e2).2⟩
      have hu5 : BytesAt (w4.setCell ⟨wr.heap.size, 14, none⟩ (.slice Au' bo.length cu')) W.heap.size (.slice Au' bo.length cu') bo := (BytesAt.of_own hou).keep hf5.dr (by decide)
      have hb5 : Below W.heap.size W (w4.setCell ⟨wr.heap.size, 14, none⟩ (.slice Au' bo.length cu')) := (hb3.trans (hb4.mono (by omega))).trans hf5.dr.below
      have hs5 : W.heap.size ≤ (w4.setCell ⟨wr.heap.size, 14, none⟩ (.slice Au' bo.length cu')).heap.size := hb5.size
      have hlj : (l.take j).length = j := by rw [List.length_take]; omega
      rw [hlj] at a3 a34
      have hln2 : j ≤ 1000000 := by omega
      clear ho3 ho4 hou c14 hru hruR hru3 hbx
      go_upto_region 6 with (fail)
      generalize w4.setCell ⟨wr.heap.size, 14, none⟩ (.slice Au' bo.length cu') = w5 at *
      clear c14' fz14 R4 a3 hf5
      go_upto_region 7 with (first | (apply wpl_loadR (ty := 32) (evC k a hd (.slice Au' bo.length cu')); rfl; rfl; rfl; kernel_rfl; (rw [evC_len _ _ _ _ hh]; kernel_rfl); exact row_cells R5) | (refine wpl_buildOne (vs := evC k a hd (.slice Au' bo.length cu')) rfl rfl Try.underlying28 info_event2 (by decide) rfl (evC_len _ _ _ _ hh) ?_; simp only [Act.put]) | (at_builtin; refine wpl_appOne (base := W.heap.size) (n := j) rfl rfl Try.underlying28 info_event rfl (by decide) (by decide) rfl rfl (World.ownsRow.alloc a34 _) (evC_len _ _ _ _ hh) (news_at w5 (evC k a hd (.slice Au' bo.length cu')) 32) (evC_one _ _ _ _ _ _) hln2 (by simp; omega) ?_; intro v6 w6 ho6 hg6))
      have hf6 : FR [32] [] W.heap.size w5 w6 := (FR.of_below (below_alloc (Below.refl _ _) _) hs5).trans (FR.of_own hg6 (World.ownsRow.alloc a34 _) (by decide) (by simp; omega))
      have hT6 : TraceAt w6 W.heap.size v6 (l.take j ++ [⟨k, a, hd, bo⟩]) :=
        TraceAt.snoc (by rw [a1]) (fun k u x e1 e2 => ⟨(a25 k u x e1 e2).1.keep hf6.dr (by decide), (a25 k u x e1 e2).2⟩) (by rw [hlj]; exact ho6) (hu5.keep hf6.dr (by decide)) hh
      have hb6 := hb5.trans hf6.dr.below
      clear a34 a25 a2 hu5 ho6 hg6 hf6 R5 hfr34
      go_wp2
      exact ⟨⟨j + 1, by omega, by go_num, by rw [HTK.out]; exact hT6, hb6⟩, by simp [intOf]; omega⟩
    · obtain rfl : j = l.length := by omega
      rw [List.take_length] at ho
      go_wp2
      go_ret
      exact ⟨_, rfl, ho, hb⟩
end Go.Proofs.Ytlbpmboknmbcgaa
