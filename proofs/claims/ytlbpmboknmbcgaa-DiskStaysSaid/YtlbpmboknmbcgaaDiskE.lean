/- Contracts of the device: note. -/
import Derived.Test.YtlbpmboknmbcgaaDiskF
import Derived.Test.YtlbpmboknmbcgaaLinG
import Derived.Test.YtlbpmboknmbcgaaBuild1
set_option linter.unusedVariables false
set_option linter.unusedSimpArgs false
namespace Go.Proofs.Ytlbpmboknmbcgaa
open Go.RowKit

/-- copy into a part of a block whose row is known, at a single operation -/
theorem wp_copyP {o : Oper} {a : Act} {W : World} {K : Act → World → Prop} {Q : Exit → Act → World → Prop} {d s : Operand} {g off n cap m c : Nat} {cur : Array Value} {T : TypeId} {A : Option Addr} {ys : List UInt8}
    (ho : o.op = .call { callee := .builtin .copy, args := #[d, s], argTypes := #[22, 22] }) (hd : a.eval d = .slice (some ⟨g, off, none⟩) n cap) (hs : a.eval s = .slice A m c)
    (hrow : Row W g cur T) (hr : RdB W A m ys) (hfit : off + n ≤ cur.size)
    (hK : ∀ W' y, Upd g (cur.toList.take off ++ ((bv ys).take (min m n) ++ cur.toList.drop (off + min m n))).toArray T W W' → K (a.put o.dst y) W') : o.wp Try.prog a W K Q := by
  have hsz : (Try.prog.info? 5).map (·.size) = some 1 := by kernel_rfl
  have hlen := hr.len
  by_cases h0 : min m n = 0
  · have hrun := run_copy_none (P := Try.prog) W 22 22 o.type 5 (some ⟨g, off, none⟩) A n cap m c Try.underlying22 hsz h0
    unfold Oper.wp
    simp [execOp, ho, resolve, invoke, builtin, hd, hs, hrun, Result.andThen]
    refine hK W _ ?_
    rw [h0]
    simpa using upd_refl hrow
  · obtain ⟨ad, rfl, hc⟩ := hr.2 (by omega)
    have hl : ((bv ys).take (min m n)).length = min m n := by rw [List.length_take, bv_length]; omega
    have hrun := run_copy_row (P := Try.prog) W 22 22 o.type 5 g off n cap ad m c cur T ((bv ys).take (min m n)) Try.underlying22 hsz hrow hl (fun j v hv => by
      rw [List.getElem?_take] at hv
      by_cases hj : j < min m n
      · rw [if_pos hj] at hv; exact hc j v hv
      · rw [if_neg hj] at hv; cases hv) (by omega) (fun v hv => bv_cells ys v (List.mem_of_mem_take hv))
    unfold Oper.wp execOp
    simp only [ho, resolve, invoke, builtin, Sem.run_bind, Sem.run_pure, Result.andThen_ok, List.map_toArray, List.map_cons, List.map_nil, hd, hs, hrun]
    refine hK _ _ ?_
    rw [hl, List.append_assoc]
    exact upd_set hrow
/-- the first twelve bytes -/
def headL (xs : List UInt8) : List UInt8 := xs.take 12 ++ List.replicate (12 - min xs.length 12) 0
theorem headL_length (xs : List UInt8) : (headL xs).length = 12 := by simp [headL]; omega
def Dk.noted (D : Dk) (e : Ev) : Dk := { D with trace := D.trace ++ [e] }
theorem info_event : (Try.prog.info? 32).map (fun i => (i.zero, i.size, i.bytes)) = some (some (.agg #[.int .i64 0, .int .i64 0, .int .u8 0, .int .u8 0, .int .u8 0, .int .u8 0, .int .u8 0, .int .u8 0, .int .u8 0, .int .u8 0, .int .u8 0, .int .u8 0, .int .u8 0, .int .u8 0, .slice none 0 0]), 15, 56) := by kernel_rfl
theorem info_event2 : (Try.prog.info? 32).map (fun i => (i.zero, i.size)) = some (some (.agg #[.int .i64 0, .int .i64 0, .int .u8 0, .int .u8 0, .int .u8 0, .int .u8 0, .int .u8 0, .int .u8 0, .int .u8 0, .int .u8 0, .int .u8 0, .int .u8 0, .int .u8 0, .int .u8 0, .slice none 0 0]), 15) := by kernel_rfl
def evC (kind at_ : Int) (hd : List UInt8) (u : Value) : List Value := [.int .i64 kind, .int .i64 at_] ++ bv hd ++ [u]
theorem evC_one (kind at_ : Int) (hd : List UInt8) (A : Option Addr) (n c : Nat) : ∀ v ∈ evC kind at_ hd (.slice A n c), v.oneCell' = true := by
  intro v hv
  unfold evC at hv
  rcases List.mem_append.1 hv with h | h
  · rcases List.mem_append.1 h with h | h
    · simp at h; rcases h with rfl | rfl <;> rfl
    · exact bv_cells _ _ h
  · simp at h; subst h; rfl
theorem evC_len (kind at_ : Int) (hd : List UInt8) (u : Value) (h : hd.length = 12) : (evC kind at_ hd u).length = 15 := by simp [evC, bv_length, h]
/-- the head's bytes laid into an event -/
theorem head_cells (kind at_ : Int) (u : Value) (xs : List UInt8) (m : Nat) (hm : m = min xs.length 12) :
    (evC kind at_ (List.replicate 12 0) u).take 2 ++ ((bv xs).take m ++ (evC kind at_ (List.replicate 12 0) u).drop (2 + m)) = evC kind at_ (headL xs) u := by
  subst hm
  unfold evC headL
  have e1 : ([Value.int .i64 kind, .int .i64 at_] ++ bv (List.replicate 12 0) ++ [u]).take 2 = [Value.int .i64 kind, .int .i64 at_] := by
    rw [List.append_assoc]; rfl
  have e2 : ([Value.int .i64 kind, .int .i64 at_] ++ bv (List.replicate 12 0) ++ [u]).drop (2 + min xs.length 12) = bv (List.replicate (12 - min xs.length 12) 0) ++ [u] := by
    rw [List.append_assoc, ← List.drop_drop]
    show List.drop (min xs.length 12) (bv (List.replicate 12 0) ++ [u]) = _
    rw [List.drop_append_of_le_length (by rw [bv_length, List.length_replicate]; omega), ← bv_drop, List.drop_replicate]
  rw [e1, e2, bv_append, bv_take]
  have e3 : (bv xs).take (min xs.length 12) = (bv xs).take 12 := by
    rcases Nat.le_total xs.length 12 with h | h
    · rw [Nat.min_eq_left h, List.take_of_length_le (by rw [bv_length]; omega), List.take_of_length_le (by rw [bv_length]; omega)]
    · rw [Nat.min_eq_right h]
  rw [e3]
  simp only [List.append_assoc]
theorem rg_alloc {S : List TypeId} {M : List Nat} {base g : Nat} {W : World} (hb : base ≤ W.heap.size) (hg : g < W.heap.size) (o : Obj) : RG (FR S M base) g W (W.alloc o) :=
  ⟨FR.of_below (below_alloc (Below.refl _ _) _) hb, heap_alloc_old W o hg⟩
theorem TraceAt.snoc {W' : World} {base : Nat} {v' u : Value} {l : List Ev} {e : Ev} {vs : List Value} (a1 : vs.length = l.length) (a2 : ∀ (k : Nat) u x, vs[k]? = some u → l[k]? = some x → BytesAt W' base u x.body ∧ x.head.length = 12)
    (a3 : W'.ownsRow base 32 15 v' (l.length + 1) (((l.zip vs).flatMap fun p => evCells p.1 p.2) ++ evCells e u))
    (hu : BytesAt W' base u e.body) (hh : e.head.length = 12) : TraceAt W' base v' (l ++ [e]) := by
  refine ⟨vs ++ [u], by simp [a1], fun k w x e1 e2 => ?_, ?_⟩
  · rcases Nat.lt_or_ge k l.length with hk | hk
    · rw [List.getElem?_append_left (by omega)] at e1
      rw [List.getElem?_append_left hk] at e2
      exact a2 k w x e1 e2
    · rw [List.getElem?_append_right (by omega), a1] at e1
      rw [List.getElem?_append_right hk] at e2
      have h0 : k - l.length = 0 := by
        rcases Nat.eq_zero_or_pos (k - l.length) with h | h
        · exact h
        · rw [List.getElem?_eq_none (by simp; omega)] at e2; cases e2
      rw [h0] at e1 e2
      cases e1
      cases e2
      exact ⟨hu, hh⟩
  · rw [List.length_append, List.zip_append a1.symm, List.flatMap_append]
    simpa using a3
set_option maxHeartbeats 1000000 in
set_option maxRecDepth 100000 in
theorem c_diskNote (W : World) (base b : Nat) (D : Dk) (kind at_ : Int) (v u : Value) (xs ys : List UInt8) (h : DiskAt W base b D) (hv : BytesAt W base v xs) (hu : BytesAt W base u ys) (hB : base ≤ W.heap.size) (hln : D.trace.length ≤ 1000000) :
    Calls Try.prog 64 #[.pointer (some ⟨b, 0, none⟩), .int .i64 kind, .int .i64 at_, v, u] W fun e w' => e = .returned (.tuple #[]) ∧ DiskAt w' base b (D.noted ⟨kind, at_, headL xs, ys⟩) ∧ DR dTy base W w' := by
  obtain ⟨mS, mN, lv, tv, hrow, hbb, hbS, hbN, hne, h1, h2, h3, h4⟩ := h.out
  obtain ⟨A, c, rfl, q1, q2, q3, q4⟩ := hv
  have hu0 := hu
  obtain ⟨A', c', rfl, p1, p2, p3, p4⟩ := hu
  unfold maxLen at q2
  clear p2 p3 p4 q4
  go_enter Try.func64, Try.ntmps64
  go_upto_region 1 with ((apply wpl_storeN; rfl; rfl; rfl; (first | rfl | simp); rfl; kernel_rfl; rfl; (simp [Value.oneCell']); simp only [Act.put]))
  have R1 := Row.new W (evC kind at_ (List.replicate 12 0) (.slice A' ys.length c')).toArray 32
  have hB1 : Below W.heap.size W (W.alloc (.cells (evC kind at_ (List.replicate 12 0) (.slice A' ys.length c')).toArray 32)) := below_alloc (Below.refl _ _) _
  have hq1 := q3.below hB1 (Nat.le_refl _)
  have hs1 : W.heap.size < (W.alloc (.cells (evC kind at_ (List.replicate 12 0) (.slice A' ys.length c')).toArray 32)).heap.size := by simp
  change Code.wp _ _ _ _ (W.alloc (.cells (evC kind at_ (List.replicate 12 0) (.slice A' ys.length c')).toArray 32))
  generalize W.alloc (.cells (evC kind at_ (List.replicate 12 0) (.slice A' ys.length c')).toArray 32) = W1 at *
  have hg : base ≤ W.heap.size := hB
  have hfit : 2 + 12 ≤ (evC kind at_ (List.replicate 12 0) (Value.slice A' ys.length c')).toArray.size := by rw [List.size_toArray, evC_len _ _ _ _ (by simp)]; decide
  obtain ⟨m, hm⟩ : ∃ m, m = min xs.length 12 := ⟨_, rfl⟩
  have hqm : RdB W1 A m (xs.take m) := by
    unfold RdB
    rw [bv_take]
    exact hq1.cut (by omega)
  have hmin : (if (12 : Int) < (xs.length : Int) then (12 : Int) else (xs.length : Int)) = (m : Int) := by split <;> omega
  have hmc : m ≤ c := by omega
  have hm12 : m ≤ 12 := by omega
  have hmI : (m : Int) ≤ (c : Int) := by omega
  have HM := Lib.hid hm
  clear hm
  (refine wp_region_linR (Below W.heap.size) (wayB W.heap.size) [(0, true), (1, true), (2, true), (3, true), (4, true), (5, true), (6, true), (7, false)] rfl rfl (by kernel_rfl) (by kernel_rfl) (fun _ _ _ _ _ h => h) ?_; (iterate 8 (first | (apply linR_take; (simp only [List.getElem?_toArray, List.getElem?_cons_succ, List.getElem?_cons_zero]; rfl); (rfl); (intro w' hb'; (first | (go_simp; done) | (go_simp; with_reducible rfl) | (go_simp; go_bits; with_reducible rfl) | (go_simp; go_bits; done))); try simp only [Act.put, List.setIfInBounds_toArray, List.set_cons_zero, List.set_cons_succ]) | (apply linR_skip; (simp only [List.getElem?_toArray, List.getElem?_cons_succ, List.getElem?_cons_zero]; rfl); (rfl); try simp only [Act.put, List.setIfInBounds_toArray, List.set_cons_zero, List.set_cons_succ]) | (apply linR_pass (wayB W.heap.size); (simp only [List.getElem?_toArray, List.getElem?_cons_succ, List.getElem?_cons_zero]; rfl); (rfl); try simp only [Act.put, List.setIfInBounds_toArray, List.set_cons_zero, List.set_cons_succ]) | (apply linR_op; (simp only [List.getElem?_toArray, List.getElem?_cons_succ, List.getElem?_cons_zero]; rfl); (rfl); intro K hK; (first | (refine wp_copyP (g := W.heap.size) (off := 2) (n := 12) (m := m) (T := 32) (cur := (evC kind at_ (List.replicate 12 0) (.slice A' ys.length c')).toArray) (ys := xs.take m) rfl (by first | rfl | (go_simp; rfl)) (by first | rfl | (go_simp; rfl)) R1 hqm hfit ?_; intro W2 y2 hu2; have hdr2 : Below W.heap.size _ _ := hu2.below (Nat.le_refl _)) | (go_simp; (first | skip))); refine hK _ _ ?_ ?_; (first | exact hdr2 | exact rk_refl _ _ _ | exact rk_set (by first | omega | (simp <;> omega)) (by simp) _ | exact rk_call (by first | omega | (simp <;> omega)) (by first | (simp; done) | (simp; omega)) (by assumption) | exact ⟨rfl, rfl, rfl, Nat.le_refl _, fun _ _ => rfl⟩ | assumption | exact belowB_alloc (by first | omega | (simp; omega) | simp) _ | exact below_anew (by first | omega | simp) _ _ | exact below_anew_drew (by first | omega | simp) _ _ | exact belowB_mono (by first | omega | (simp; omega) | simp) (by assumption)); clear hK; try simp only [Act.put, List.setIfInBounds_toArray, List.set_cons_zero, List.set_cons_succ]))); refine linR_end ?_)
  have R2 := hu2.row
  have eR : (evC kind at_ (List.replicate 12 0) (.slice A' ys.length c')).toArray.toList.take 2 ++ ((bv (xs.take m)).take (min m 12) ++ (evC kind at_ (List.replicate 12 0) (.slice A' ys.length c')).toArray.toList.drop (2 + min m 12)) = evC kind at_ (headL xs) (.slice A' ys.length c') := by
    rw [Nat.min_eq_left hm12, bv_take, List.take_take, Nat.min_self]
    exact head_cells _ _ _ _ _ HM.out
  rw [eR] at R2
  have hB2W : Below W.heap.size W W2 := (below_drew hB1).trans hdr2
  have hf2 : FR [] [] base W W2 := FR.of_below hB2W hB
  have hrow2 := hf2.row hrow (by simp)
  have h1' := h1.fr hf2 (by simp) (by simp) (Nat.le_refl _)
  have h2' := h2.fr hf2 (by simp) (by simp) (Nat.le_refl _)
  have h3' := h3.fr hf2 (by simp) (by simp)
  have h4' := h4.fr hf2 (by simp) (by simp)
  have hu2' := hu0.keep hf2.dr (by simp)
  have hs2 := hB2W.size
  have hB2 : base ≤ W2.heap.size := by omega
  have hgs : W.heap.size < W2.heap.size := by have := hdr2.size; simp at this; omega
  replace R2 : Row W2 W.heap.size (evC kind at_ (headL xs) (.slice A' ys.length c')).toArray 32 := R2
  have hfr0 := hf2
  obtain ⟨vs, a1, a2, a3⟩ := h4'
  have hneg : tv.ownBlock ≠ some W.heap.size := by
    intro e
    obtain ⟨vs0, -, -, b3⟩ := h4
    rcases b3.2 with ⟨rfl, _⟩ | ⟨g, cap, cur, rfl, _, hh, _⟩
    · simp [Value.ownBlock] at e
    · simp [Value.ownBlock] at e
      have := (Array.getElem?_eq_some_iff.1 hh).1
      omega
  have c7w := hrow2.cell 7 rfl
  clear hu2 hdr2 eR hqm R1 hB1 hq1 hs1 hfit h1 h2 h3 h4 hu0 hf2 hB2W hmin hmc hm12 hmI q1 q2 q3 hrow h p1
  go_upto_region 2 with (fail)
  (refine wp_region_linG (RG (FR [32] [] base) W.heap.size) (wayRG (wayF [32] [] base) W.heap.size) [(0, true), (1, true), (2, true), (3, true), (4, true), (5, true), (6, false), (7, false), (8, true), (9, true), (10, false)] rfl rfl (by kernel_rfl) (by kernel_rfl) (fun _ _ _ _ _ h => h) ?_; (iterate 11 (first | (apply linG_load (ty := 32) (vs := evC kind at_ (headL xs) (.slice A' ys.length c')); (simp only [List.getElem?_toArray, List.getElem?_cons_succ, List.getElem?_cons_zero]; rfl); (rfl); (rfl); (rfl); (intro _; kernel_rfl); (rw [evC_len _ _ _ _ (headL_length xs)]; kernel_rfl); (intro w' hR; exact row_cells (RG.row hR R2)); try simp only [Act.put, List.setIfInBounds_toArray, List.set_cons_zero, List.set_cons_succ]) | (apply linG_take; (simp only [List.getElem?_toArray, List.getElem?_cons_succ, List.getElem?_cons_zero]; rfl); (rfl); (intro w' hb'; (try have kc := FR.cell hb'.1 hrow2 (by decide) (j := 7) rfl); (first | (go_simp; done) | (go_simp; with_reducible rfl) | (go_simp; go_bits; with_reducible rfl) | (go_simp; go_bits; done))); try simp only [Act.put, List.setIfInBounds_toArray, List.set_cons_zero, List.set_cons_succ]) | (apply linG_skip; (simp only [List.getElem?_toArray, List.getElem?_cons_succ, List.getElem?_cons_zero]; rfl); (rfl); try simp only [Act.put, List.setIfInBounds_toArray, List.set_cons_zero, List.set_cons_succ]) | (apply linG_pass (wayRG (wayF [32] [] base) W.heap.size); (simp only [List.getElem?_toArray, List.getElem?_cons_succ, List.getElem?_cons_zero]; rfl); (rfl); try simp only [Act.put, List.setIfInBounds_toArray, List.set_cons_zero, List.set_cons_succ]) | (apply linG_last; (simp only [List.getElem?_toArray, List.getElem?_cons_succ, List.getElem?_cons_zero]; rfl); (rfl); (kernel_rfl); intro K hK; (first | (refine wp_buildOne (vs := evC kind at_ (headL xs) (.slice A' ys.length c')) rfl Try.underlying28 info_event2 (by decide) rfl (evC_len _ _ _ _ (headL_length xs)) ?_) | (refine wp_appOne (base := base) (v := tv) (n := D.trace.length) rfl Try.underlying28 info_event rfl (by decide) (by decide) rfl rfl (World.ownsRow.alloc (w := W2.drew) a3 _) (evC_len _ _ _ _ (headL_length xs)) (news_at _ (evC kind at_ (headL xs) (.slice A' ys.length c')) 32) (evC_one _ _ _ _ _ _) hln (by simp; omega) ?_; intro v4 W4 ho4 hg4; have hdr2 : RG (FR [32] [] base) W.heap.size _ _ := ⟨FR.of_own hg4 (World.ownsRow.alloc (w := W2.drew) a3 _) (by decide) (by simp; omega), hg4.block _ (by simp; omega) (Ne.symm hneg)⟩; have hf4 : FR [32] [] base W2 W4 := (FR.of_below (below_alloc (below_drew (Below.refl _ _)) _) hB2).trans hdr2.1; have hrow4 := hf4.row hrow2 (by decide); have c7 := hrow4.cell 7 rfl; have fz7 := hrow4.free 7; obtain ⟨A4, c4, rfl, -, -⟩ := own_form ho4) | (go_simp; (first | skip))); refine hK _ _ trivial ?_; clear hK; try simp only [Act.put, List.setIfInBounds_toArray, List.set_cons_zero, List.set_cons_succ]) | (apply linG_op; (simp only [List.getElem?_toArray, List.getElem?_cons_succ, List.getElem?_cons_zero]; rfl); (rfl); intro K hK; (first | (refine wp_buildOne (vs := evC kind at_ (headL xs) (.slice A' ys.length c')) rfl Try.underlying28 info_event2 (by decide) rfl (evC_len _ _ _ _ (headL_length xs)) ?_) | (refine wp_appOne (base := base) (v := tv) (n := D.trace.length) rfl Try.underlying28 info_event rfl (by decide) (by decide) rfl rfl (World.ownsRow.alloc (w := W2.drew) a3 _) (evC_len _ _ _ _ (headL_length xs)) (news_at _ (evC kind at_ (headL xs) (.slice A' ys.length c')) 32) (evC_one _ _ _ _ _ _) hln (by simp; omega) ?_; intro v4 W4 ho4 hg4; have hdr2 : RG (FR [32] [] base) W.heap.size _ _ := ⟨FR.of_own hg4 (World.ownsRow.alloc (w := W2.drew) a3 _) (by decide) (by simp; omega), hg4.block _ (by simp; omega) (Ne.symm hneg)⟩; have hf4 : FR [32] [] base W2 W4 := (FR.of_below (below_alloc (below_drew (Below.refl _ _)) _) hB2).trans hdr2.1; have hrow4 := hf4.row hrow2 (by decide); have c7 := hrow4.cell 7 rfl; have fz7 := hrow4.free 7; obtain ⟨A4, c4, rfl, -, -⟩ := own_form ho4) | (go_simp; (first | skip))); refine hK _ _ ?_ ?_; (first | exact hdr2 | assumption | (first | exact rg_alloc (by simp; omega) (by simp; omega) _ | exact FR.of_below (below_alloc (Below.refl _ _) _) (by first | assumption | (simp; omega)) | exact DR.of_below (below_alloc (Below.refl _ _) _) (by first | assumption | (simp; omega)))); clear hK; try simp only [Act.put, List.setIfInBounds_toArray, List.set_cons_zero, List.set_cons_succ]))); (try refine linG_end ?_))
  have hu7 := upd_cell (j := 7) hrow4 (Value.slice A4 (D.trace.length + 1) c4)
  have hT4 : TraceAt W4 base (.slice A4 (D.trace.length + 1) c4) (D.trace ++ [⟨kind, at_, headL xs, ys⟩]) :=
    TraceAt.snoc a1 (fun k u x e1 e2 => ⟨(a2 k u x e1 e2).1.keep hf4.dr (by decide), (a2 k u x e1 e2).2⟩) ho4 (hu2'.keep hf4.dr (by decide)) (headL_length xs)
  have hS4 := h1'.fr hf4 (by decide) (by simp) (Nat.le_refl _)
  have hN4 := h2'.fr hf4 (by decide) (by simp) (Nat.le_refl _)
  have hL4 := h3'.fr hf4 (by decide) (by decide)
  have ht := disk_turn (D := D.noted ⟨kind, at_, headL xs, ys⟩) hrow4 hu7 hbb hS4 hN4 hL4 hT4
  have hfin : DiskAt (W4.setCell ⟨b, 7, none⟩ (.slice A4 (D.trace.length + 1) c4)) base b (D.noted ⟨kind, at_, headL xs, ys⟩) :=
    ⟨⟨mS, mN, lv, _, hu7.row, hbb, hbS, hbN, hne, ht.2.1, ht.2.2.1, ht.2.2.2.1, ht.2.2.2.2⟩⟩
  have hdr : DR dTy base W (W4.setCell ⟨b, 7, none⟩ (.slice A4 (D.trace.length + 1) c4)) := (hfr0.dr.less (by simp)).trans ((hf4.dr.less (by decide)).trans ht.1)
  refine bodyPost_end (by simp [results, Try.results64]) rfl ⟨rfl, hfin, hdr⟩
end Go.Proofs.Ytlbpmboknmbcgaa
