/- Places (two Booleans each) as rows; slices.Repeat of one place. -/
import Derived.Test.YtmdmhjcdaejlkaaPenC
import Derived.Test.YtmdmhjcdaejlkaaMkB
import Derived.Deep.Cut
set_option linter.unusedVariables false
set_option linter.unusedSimpArgs false
namespace Go.Proofs.Ytmdmhjcdaejlkaa
open Go.RowKit

/-- places as cells -/
def pcs (l : List (Bool × Bool)) : List Value := l.flatMap fun p => [.bool p.1, .bool p.2]
theorem pcs_nil : pcs [] = [] := rfl
theorem pcs_cons (p : Bool × Bool) (l : List (Bool × Bool)) : pcs (p :: l) = .bool p.1 :: .bool p.2 :: pcs l := rfl
theorem pcs_length : ∀ l : List (Bool × Bool), (pcs l).length = 2 * l.length
  | [] => rfl
  | p :: l => by rw [pcs_cons, List.length_cons, List.length_cons, pcs_length l, List.length_cons]; omega
theorem pcs_append (l m : List (Bool × Bool)) : pcs (l ++ m) = pcs l ++ pcs m := by unfold pcs; rw [List.flatMap_append]
theorem pcs_take : ∀ (l : List (Bool × Bool)) (k : Nat), (pcs l).take (2 * k) = pcs (l.take k)
  | [], k => by simp [pcs_nil]
  | p :: l, 0 => by simp [pcs_nil]
  | p :: l, k + 1 => by rw [show 2 * (k + 1) = 2 * k + 1 + 1 by omega, pcs_cons, List.take_succ_cons, List.take_succ_cons, List.take_succ_cons, pcs_cons, pcs_take l k]
theorem pcs_drop : ∀ (l : List (Bool × Bool)) (k : Nat), (pcs l).drop (2 * k) = pcs (l.drop k)
  | [], k => by simp [pcs_nil]
  | p :: l, 0 => by simp
  | p :: l, k + 1 => by rw [show 2 * (k + 1) = 2 * k + 1 + 1 by omega, pcs_cons, List.drop_succ_cons, List.drop_succ_cons, List.drop_succ_cons, pcs_drop l k]
theorem pcs_get0 : ∀ (l : List (Bool × Bool)) (k : Nat), (pcs l)[2 * k]? = l[k]?.map fun p => Value.bool p.1
  | [], k => by simp [pcs_nil]
  | p :: l, 0 => rfl
  | p :: l, k + 1 => by rw [show 2 * (k + 1) = 2 * k + 1 + 1 by omega, pcs_cons, List.getElem?_cons_succ, List.getElem?_cons_succ, List.getElem?_cons_succ, pcs_get0 l k]
theorem pcs_get1 : ∀ (l : List (Bool × Bool)) (k : Nat), (pcs l)[2 * k + 1]? = l[k]?.map fun p => Value.bool p.2
  | [], k => by simp [pcs_nil]
  | p :: l, 0 => rfl
  | p :: l, k + 1 => by rw [show 2 * (k + 1) + 1 = 2 * k + 1 + 1 + 1 by omega, pcs_cons, List.getElem?_cons_succ, List.getElem?_cons_succ, List.getElem?_cons_succ, pcs_get1 l k]
theorem pcs_one : ∀ (l : List (Bool × Bool)), ∀ v ∈ pcs l, v.oneCell' = true
  | [], v, h => by simp [pcs_nil] at h
  | p :: l, v, h => by
    rw [pcs_cons] at h
    rcases List.mem_cons.1 h with rfl | h
    · rfl
    · rcases List.mem_cons.1 h with rfl | h
      · rfl
      · exact pcs_one l v h
theorem pcs_set0 : ∀ (l : List (Bool × Bool)) (k : Nat) (x : Bool), (pcs l).set (2 * k) (.bool x) = pcs (l.set k (x, (l[k]?.getD (false, false)).2))
  | [], k, x => by simp [pcs_nil]
  | p :: l, 0, x => rfl
  | p :: l, k + 1, x => by rw [show 2 * (k + 1) = 2 * k + 1 + 1 by omega, pcs_cons, List.set_cons_succ, List.set_cons_succ, List.set_cons_succ, pcs_cons, pcs_set0 l k x, List.getElem?_cons_succ]
theorem pcs_set1 : ∀ (l : List (Bool × Bool)) (k : Nat) (x : Bool), (pcs l).set (2 * k + 1) (.bool x) = pcs (l.set k ((l[k]?.getD (false, false)).1, x))
  | [], k, x => by simp [pcs_nil]
  | p :: l, 0, x => rfl
  | p :: l, k + 1, x => by rw [show 2 * (k + 1) + 1 = 2 * k + 1 + 1 + 1 by omega, pcs_cons, List.set_cons_succ, List.set_cons_succ, List.set_cons_succ, pcs_cons, pcs_set1 l k x, List.getElem?_cons_succ]
theorem pcs_rep (n : Nat) : pcs (List.replicate n (false, false)) = List.replicate (2 * n) (.bool false) := by
  induction n with
  | zero => rfl
  | succ n ih => rw [List.replicate_succ, pcs_cons, ih, show 2 * (n + 1) = 2 * n + 1 + 1 by omega, List.replicate_succ, List.replicate_succ]
/-- copy into a row of structs: o, in cells -/
theorem run_copy_rowS {P : Program} (w : World) (dT sT ty elem : TypeId) (g o dLen dCap size : Nat) (a : Addr) (sLen sCap : Nat) (cur : Array Value) (t : TypeId) (cs : List Value)
    (hu : P.underlying dT = some (.slice elem)) (hs : (P.info? elem).map (·.size) = some size)
    (hg : w.heap[g]? = some (.cells cur t (0, 0))) (hn : cs.length = Nat.min sLen dLen * size)
    (hsrc : ∀ j v, cs[j]? = some v → w.cell? (a.add j) = some v) (hfit : o + cs.length ≤ cur.size) (h1 : ∀ v ∈ cs, v.oneCell' = true) :
    (Builtin.copy_ #[dT, sT] ty #[.slice (some ⟨g, o, none⟩) dLen dCap, .slice (some a) sLen sCap]).run P w =
      .ok (goInt (Nat.min sLen dLen)) (w.setRow g (cur.toList.take o ++ cs ++ cur.toList.drop (o + cs.length)).toArray) := by
  have hl := run_loadCells_list (P := P) w a cs hsrc
  have hst := run_storeCells_at P g o t cs 0 cur w hg (by simpa using hfit) h1
  cases hq : P.info? elem with
  | none => simp [hq] at hs
  | some i =>
    have hi : i.size = size := by simpa [hq] using hs
    simp [Builtin.copy_, run_underlying hu, Builtin.lenOf, Builtin.firstCells, sizeOf, typeInfo, hq, hi, ← hn, hl, hst]
theorem info_place : (Try.prog.info? 117).map (fun i => (i.zero, i.size, i.bytes)) = some (some (.agg #[.bool false, .bool false]), 2, 2) := by kernel_rfl
theorem run_mkP (W : World) (n : Nat) (hn : n ≤ 1000000) : ∃ W', (Instr.makeSlice 114 (.int .i64 (n : Int)) (.int .i64 (n : Int))).run Try.prog W = .ok (.slice (some ⟨W.heap.size, 0, none⟩) n n) W' ∧ Row W' W.heap.size (pcs (List.replicate n (false, false))).toArray 117 ∧ Below W.heap.size W W' := by
  obtain ⟨i, h1, h2⟩ := Option.map_eq_some_iff.1 info_place
  simp only [Prod.mk.injEq] at h2
  obtain ⟨W', hrun, ho, hgr⟩ := run_make_full (P := Try.prog) W W.heap.size 114 117 i (.agg #[.bool false, .bool false]) 2 Try.underlying114 h1 h2.1 h2.2.1 .i64 .i64 n (by rw [h2.2.2]; omega) (by unfold maxLen; omega) (Nat.le_refl _)
  refine ⟨W', hrun, ?_, ⟨hgr.os, hgr.tape, hgr.output, hgr.size, fun k hk => hgr.block k hk (by simp)⟩⟩
  rcases ho.2 with ⟨e, _⟩ | ⟨g, cap, cur, e, hg, hh, q1, q2, q3, q4⟩
  · cases e
  · simp only [Value.slice.injEq, Option.some.injEq, Addr.mk.injEq, and_true, true_and] at e
    obtain ⟨rfl, rfl⟩ := e
    have hz : (madeCells (Value.agg #[.bool false, .bool false]).cells (n * 2)).toList = pcs (List.replicate n (false, false)) := by
      rw [pcs_rep]
      apply List.ext_getElem?
      intro k
      rw [Array.getElem?_toList, List.getElem?_replicate]
      unfold madeCells
      rw [Array.getElem?_map]
      by_cases hk : k < 2 * n
      · rw [if_pos hk, Array.getElem?_eq_getElem (by simpa using (by omega : k < n * 2))]
        simp only [Array.getElem_range, Option.map_some, Option.some.injEq]
        show (#[Value.bool false, Value.bool false])[k % 2]! = _
        rcases Nat.mod_two_eq_zero_or_one k with h | h <;> rw [h] <;> rfl
      · rw [if_neg hk, Array.getElem?_eq_none (by simpa using (by omega : n * 2 ≤ k))]
        rfl
    rw [hz] at q4
    have : cur = (pcs (List.replicate n (false, false))).toArray := by
      apply Array.toList_inj.1
      rw [← q4, List.take_of_length_le (by rw [Array.length_toList]; omega)]
    subst this
    exact hh
theorem mask32_id {n : Nat} (h : n ≤ 1000000) : bits .and .u64 (n : Int) 4294967295 = (n : Int) := by
  have h1 := bits_and_u64_nat n 4294967295 (by omega) (by omega)
  have e : n &&& 4294967295 = n % 4294967296 := Nat.and_two_pow_sub_one_eq_mod n 32
  rw [e, Nat.mod_eq_of_lt (by omega)] at h1
  exact h1
set_option maxHeartbeats 4000000 in
theorem c_mul64 (n : Nat) (hn : n ≤ 1000000) (W : World) : Calls Try.prog 97 #[.int .u64 1, .int .u64 (n : Int)] W fun e w' => e = .returned (.tuple #[.int .u64 0, .int .u64 (n : Int)]) ∧ w' = W := by
  have h1 := mask32_id hn
  have h2 : bits .and .u64 1 4294967295 = 1 := by decide
  have h2b : bits .and .u64 0 4294967295 = 0 := by decide
  have h3 : (n : Int) / 4294967296 = 0 := by omega
  have h4 : IntKind.u64.wrap (n : Int) = (n : Int) := IntWalk.u64_in _ ⟨by omega, by omega⟩
  go_enter Try.func97, Try.ntmps97
  go_wp2
  go_ret2
  exact ⟨rfl, rfl⟩
theorem c_mul (n : Nat) (hn : n ≤ 1000000) (W : World) : Calls Try.prog 92 #[.int .u64 1, .int .u64 (n : Int)] W fun e w' => e = .returned (.tuple #[.int .u64 0, .int .u64 (n : Int)]) ∧ w' = W := by
  have h4 : IntKind.u64.wrap (n : Int) = (n : Int) := IntWalk.u64_in _ ⟨by omega, by omega⟩
  have HM := Lib.hid (c_mul64 n hn W)
  go_enter Try.func92, Try.ntmps92
  go_wp2_with (go_at_call 97; refine HM.out.mono ?_; rintro e w' ⟨rfl, hw⟩; rw [hw])
  go_ret2
  exact ⟨rfl, rfl⟩
theorem run_cpP {W : World} {g k dn dc g2 sn sc : Nat} {ty : TypeId} {L M : List (Bool × Bool)} (hr : Row W g (pcs L).toArray 117) (h2 : Row W g2 (pcs M).toArray 117) (hs : sn ≤ M.length) (hfit : k + dn ≤ L.length) :
    ∃ W', (Builtin.copy_ #[114, 114] ty #[.slice (some ⟨g, 2 * k, none⟩) dn dc, .slice (some ⟨g2, 0, none⟩) sn sc]).run Try.prog W = .ok (.int .i64 ((min sn dn : Nat) : Int)) W' ∧
      Upd g (pcs (L.take k ++ M.take (min sn dn) ++ L.drop (k + min sn dn))).toArray 117 W W' := by
  have hsz : (Try.prog.info? 117).map (·.size) = some 2 := by kernel_rfl
  have hm : min sn dn ≤ sn := Nat.min_le_left _ _
  have hm2 : min sn dn ≤ dn := Nat.min_le_right _ _
  have hlen : (pcs (M.take (min sn dn))).length = Nat.min sn dn * 2 := by
    rw [pcs_length, List.length_take, Nat.min_eq_left (by omega)]
    show _ = min sn dn * 2
    omega
  have hsrc : ∀ j v, (pcs (M.take (min sn dn)))[j]? = some v → W.cell? ((⟨g2, 0, none⟩ : Addr).add j) = some v := by
    intro j v hj
    rw [← pcs_take, List.getElem?_take] at hj
    split at hj
    · rw [ad_none, Nat.zero_add]
      exact h2.cell j (by simpa using hj)
    · cases hj
  have hrun := run_copy_rowS (P := Try.prog) W 114 114 ty 117 g (2 * k) dn dc 2 ⟨g2, 0, none⟩ sn sc (pcs L).toArray 117 (pcs (M.take (min sn dn))) Try.underlying114 hsz hr hlen hsrc (by
    rw [hlen, List.size_toArray, pcs_length]
    show 2 * k + min sn dn * 2 ≤ _
    omega) (pcs_one _)
  refine ⟨_, hrun, ?_⟩
  have e : ((pcs L).toArray.toList.take (2 * k) ++ pcs (M.take (min sn dn)) ++ (pcs L).toArray.toList.drop (2 * k + (pcs (M.take (min sn dn))).length)).toArray = (pcs (L.take k ++ M.take (min sn dn) ++ L.drop (k + min sn dn))).toArray := by
    rw [hlen, pcs_append, pcs_append, ← pcs_take L k, ← pcs_drop, show 2 * k + Nat.min sn dn * 2 = 2 * (k + min sn dn) by show 2 * k + min sn dn * 2 = _; omega]
  rw [e]
  exact upd_set hr
theorem wp_cpP {o : Oper} {a : Act} {W : World} {K : Act → World → Prop} {Q : Exit → Act → World → Prop} {d s : Operand} {g k k2 dn dc g2 sn sc : Nat} {L M : List (Bool × Bool)}
    (ho : o.op = .call { callee := .builtin .copy, args := #[d, s], argTypes := #[114, 114] }) (hd : a.eval d = .slice (some ⟨g, k2, none⟩) dn dc) (hs : a.eval s = .slice (some ⟨g2, 0, none⟩) sn sc) (hk : k2 = 2 * k)
    (hr : Row W g (pcs L).toArray 117) (h2 : Row W g2 (pcs M).toArray 117) (hsn : sn ≤ M.length) (hfit : k + dn ≤ L.length)
    (hK : ∀ W', Upd g (pcs (L.take k ++ M.take (min sn dn) ++ L.drop (k + min sn dn))).toArray 117 W W' → K (a.put o.dst (.int .i64 ((min sn dn : Nat) : Int))) W') : o.wp Try.prog a W K Q := by
  subst hk
  obtain ⟨W', hrun, hu⟩ := run_cpP (ty := o.type) (dc := dc) (sc := sc) hr h2 hsn hfit
  unfold Oper.wp execOp
  simp only [ho, resolve, invoke, builtin, Sem.run_bind, Sem.run_pure, Result.andThen_ok, List.map_toArray, List.map_cons, List.map_nil, hd, hs, hrun]
  exact hK W' hu
theorem wpl_cpP {ops : Array Oper} {rest : List Oper} {o : Oper} {a : Act} {W : World} {Q : Exit → Act → World → Prop} {d s : Operand} {g k k2 dn dc g2 sn sc : Nat} {L M : List (Bool × Bool)} (hgd : o.guard = none)
    (ho : o.op = .call { callee := .builtin .copy, args := #[d, s], argTypes := #[114, 114] }) (hd : a.eval d = .slice (some ⟨g, k2, none⟩) dn dc) (hs : a.eval s = .slice (some ⟨g2, 0, none⟩) sn sc) (hk : k2 = 2 * k)
    (hr : Row W g (pcs L).toArray 117) (h2 : Row W g2 (pcs M).toArray 117) (hsn : sn ≤ M.length) (hfit : k + dn ≤ L.length)
    (hK : ∀ W', Upd g (pcs (L.take k ++ M.take (min sn dn) ++ L.drop (k + min sn dn))).toArray 117 W W' → wpList Try.prog ops Q rest (a.put o.dst (.int .i64 ((min sn dn : Nat) : Int))) W') : wpList Try.prog ops Q (o :: rest) a W :=
  wpList_plain hgd fun _ hK' => wp_cpP ho hd hs hk hr h2 hsn hfit fun W' hu => hK' _ _ (hK W' hu)
theorem rep_split (n k : Nat) (h : k ≤ n) : ∀ m, m = min k (n - k) → (List.replicate k (true, false) ++ List.replicate (n - k) (false, false)).take k ++ (List.replicate k (true, false) ++ List.replicate (n - k) (false, false)).take m ++ (List.replicate k (true, false) ++ List.replicate (n - k) (false, false)).drop (k + m) = List.replicate (k + m) (true, false) ++ List.replicate (n - (k + m)) (false, false) := by
  rintro m rfl
  rw [List.take_append_of_le_length (by simp), List.take_append_of_le_length (by simp; omega), List.take_replicate, List.take_replicate, List.drop_append, List.drop_replicate, List.drop_replicate, List.length_replicate]
  rw [Nat.min_self, show min (min k (n - k)) k = min k (n - k) by omega, List.replicate_append_replicate]
  rw [show k - (k + min k (n - k)) = 0 by omega, List.replicate_zero, List.nil_append, show n - k - (k + min k (n - k) - k) = n - (k + min k (n - k)) by omega]
theorem undP : Try.prog.underlying 114 = some (.slice (Try.prog.elem 114)) := by
  have e : Try.prog.elem 114 = 117 := by unfold Program.elem; rw [Try.underlying114]
  rw [e]; exact Try.underlying114
theorem sizeP (W : World) : (sizeOf (Try.prog.elem 114)).run Try.prog W = .ok 2 W := by
  have e : Try.prog.elem 114 = 117 := by unfold Program.elem; rw [Try.underlying114]
  obtain ⟨i, h1, h2⟩ := Option.map_eq_some_iff.1 info_place
  simp only [Prod.mk.injEq] at h2
  rw [e]
  simp [sizeOf, typeInfo, h1, h2.2.1]
theorem cutP_from (W : World) (g n k : Nat) (hk : k < n) : (Instr.slice 114 (.slice (some ⟨g, 0, none⟩) n n) (some (.int .i64 (k : Int))) none none).run Try.prog W = .ok (.slice (some ⟨g, 2 * k, none⟩) (n - k) (n - k)) W := by
  have := run_slice_l (P := Try.prog) W 114 (some ⟨g, 0, none⟩) n n undP .i64 (k : Int) (by omega) (by omega)
  rw [this, sizeP]
  simp [sliced, Addr.add_lit, Nat.ne_of_gt hk, Nat.mul_comm]
theorem cutP_to (W : World) (g n k : Nat) (hk : k ≤ n) : (Instr.slice 114 (.slice (some ⟨g, 0, none⟩) n n) none (some (.int .i64 (k : Int))) none).run Try.prog W = .ok (.slice (some ⟨g, 0, none⟩) k n) W := by
  have := run_slice_h (P := Try.prog) W 114 (some ⟨g, 0, none⟩) n n undP .i64 (k : Int) (by omega) (by omega)
  rw [this, sizeP]
  simp [sliced, Addr.add]
set_option maxHeartbeats 4000000 in
set_option maxRecDepth 100000 in
/-- slices.Repeat of one place -/
theorem c_rep (n g0 : Nat) (hn : n ≤ 1000000) (W : World) (h0 : Row W g0 #[.bool true, .bool false] 117) :
    Calls Try.prog 79 #[.slice (some ⟨g0, 0, none⟩) 1 1, .int .i64 (n : Int)] W fun e w' => ∃ g, e = .returned (.slice (some ⟨g, 0, none⟩) n n) ∧ W.heap.size ≤ g ∧ Row w' g (pcs (List.replicate n (true, false))).toArray 117 ∧ Below W.heap.size W w' := by
  have h4 : IntKind.u64.wrap (n : Int) = (n : Int) := IntWalk.u64_in _ ⟨by omega, by omega⟩
  have h5 : IntKind.i64.wrap (n : Int) = (n : Int) := IntWalk.i64_in _ (by omega)
  have h6 : ¬ ((n : Int) < 0) := by omega
  have h7 : ¬ ((n : Int) > 9223372036854775807) := by omega
  have HM := Lib.hid (c_mul n hn W)
  obtain ⟨W1, hmk, hr1, hb1⟩ := run_mkP W n hn
  have HW := Lib.hid hmk
  clear hmk
  go_enter Try.func79, Try.ntmps79
  go_upto_region 6 with (go_at_call 92; refine HM.out.mono ?_; rintro e w' ⟨rfl, hw⟩; rw [hw])
  have hmk := HW.out
  go_upto_region 7 with fail
  have h01 := h0.below hb1 h0.lt
  have hg0 : g0 ≠ W.heap.size := Nat.ne_of_lt h0.lt
  go_upto_region 8 with (refine wpl_cpP (k := 0) (L := List.replicate n (false, false)) (M := [(true, false)]) rfl rfl rfl rfl rfl hr1 h01 (by decide) (by simp) ?_; intro W2 hu2)
  obtain ⟨m, hm⟩ : ∃ m, min 1 n = m := ⟨_, rfl⟩
  have hr2 : Row W2 W.heap.size (pcs (List.replicate m (true, false) ++ List.replicate (n - m) (false, false))).toArray 117 := by
    have e := hu2.row
    rw [hm] at e
    have e2 : (List.replicate n (false, false)).take 0 ++ [(true, false)].take m ++ (List.replicate n (false, false)).drop (0 + m) = List.replicate m (true, false) ++ List.replicate (n - m) (false, false) := by
      rcases (show m = 0 ∨ m = 1 by omega) with rfl | rfl <;> simp [List.drop_replicate]
    rw [e2] at e
    exact e
  have hb2 := hb1.trans (hu2.below (Nat.le_refl _))
  have hmn : m ≤ n ∧ (0 < n → 0 < m) := by omega
  rw [hm]
  obtain ⟨gr, hgr⟩ : ∃ gr, W.heap.size = gr := ⟨_, rfl⟩
  rw [hgr] at hr2 hb2 ⊢
  clear hu2 hr1 h01 hb1 HW hmk HM hm hg0 h0
  go_loopw [8] (fun s8 wr => ∃ k : Nat, k ≤ n ∧ (0 < n → 0 < k) ∧ s8 = .int .i64 (k : Int) ∧ Row wr gr (pcs (List.replicate k (true, false) ++ List.replicate (n - k) (false, false))).toArray 117 ∧ Below gr W wr) (fun s8 _ => (n - intOf s8).toNat)
  case atStart => exact ⟨m, hmn.1, hmn.2, rfl, hr2, hb2⟩
  case round =>
    clear hr2 hb2 hmn
    obtain ⟨k, hk, hk0, rfl, hr, hb⟩ := hrel
    by_cases hlt : k < n
    · have hlt2 : (k : Int) < (n : Int) := by omega
      have hkp := hk0 (by omega)
      have e1 : ((n : Int) - (k : Int)).toNat = n - k := by omega
      go_upto_region 9 with fail
      have hf := fun w' => cutP_from w' gr n k hlt
      have ht := fun w' => cutP_to w' gr n k hk
      have hsp := rep_split n k hk _ rfl
      have hsu : IntKind.i64.wrap ((k : Int) + ((min k (n - k) : Nat) : Int)) = ((k + min k (n - k) : Nat) : Int) := by rw [show (k : Int) + ((min k (n - k) : Nat) : Int) = ((k + min k (n - k) : Nat) : Int) by omega]; exact IntWalk.i64_in _ (by omega)
      have hmn2 : 0 < min k (n - k) ∧ k + min k (n - k) ≤ n := by omega
      have hll : k + (n - k) ≤ (List.replicate k (true, false) ++ List.replicate (n - k) (false, false)).length := by simp
      have hll2 : k ≤ (List.replicate k (true, false) ++ List.replicate (n - k) (false, false)).length := by simp
      have hrd : Row wr.drew gr (pcs (List.replicate k (true, false) ++ List.replicate (n - k) (false, false))).toArray 117 := hr
      (refine wp_region_linN (Below gr) (Below gr) (wayB _) (wayB _) (fun _ _ h => h) (.free 0 (.free 1 (.free 2 (.free 3 (.free 4 (.free 5 (.free 6 (.op 7 [] [] [] (.free 8 (.free 9 .nil)))))))))) rfl (by kernel_rfl) (by kernel_rfl) (fun _ _ _ _ _ h => h) ?_; (first | (apply linN_free; (simp only [List.getElem?_toArray, List.getElem?_cons_succ, List.getElem?_cons_zero]; rfl); (rfl); (intro w'; (first | (go_simp; done) | (go_simp; with_reducible rfl) | (go_simp; go_bits; with_reducible rfl) | (go_simp; go_bits; done))); try simp only [Act.put, List.setIfInBounds_toArray, List.set_cons_zero, List.set_cons_succ]) | (apply linN_freeSkip; (simp only [List.getElem?_toArray, List.getElem?_cons_succ, List.getElem?_cons_zero]; rfl); (rfl); try simp only [Act.put, List.setIfInBounds_toArray, List.set_cons_zero, List.set_cons_succ])); (first | (apply linN_free; (simp only [List.getElem?_toArray, List.getElem?_cons_succ, List.getElem?_cons_zero]; rfl); (rfl); (intro w'; (first | (go_simp; done) | (go_simp; with_reducible rfl) | (go_simp; go_bits; with_reducible rfl) | (go_simp; go_bits; done))); try simp only [Act.put, List.setIfInBounds_toArray, List.set_cons_zero, List.set_cons_succ]) | (apply linN_freeSkip; (simp only [List.getElem?_toArray, List.getElem?_cons_succ, List.getElem?_cons_zero]; rfl); (rfl); try simp only [Act.put, List.setIfInBounds_toArray, List.set_cons_zero, List.set_cons_succ])); (first | (apply linN_free; (simp only [List.getElem?_toArray, List.getElem?_cons_succ, List.getElem?_cons_zero]; rfl); (rfl); (intro w'; (first | (go_simp; done) | (go_simp; with_reducible rfl) | (go_simp; go_bits; with_reducible rfl) | (go_simp; go_bits; done))); try simp only [Act.put, List.setIfInBounds_toArray, List.set_cons_zero, List.set_cons_succ]) | (apply linN_freeSkip; (simp only [List.getElem?_toArray, List.getElem?_cons_succ, List.getElem?_cons_zero]; rfl); (rfl); try simp only [Act.put, List.setIfInBounds_toArray, List.set_cons_zero, List.set_cons_succ])); (first | (apply linN_free; (simp only [List.getElem?_toArray, List.getElem?_cons_succ, List.getElem?_cons_zero]; rfl); (rfl); (intro w'; (first | (go_simp; done) | (go_simp; with_reducible rfl) | (go_simp; go_bits; with_reducible rfl) | (go_simp; go_bits; done))); try simp only [Act.put, List.setIfInBounds_toArray, List.set_cons_zero, List.set_cons_succ]) | (apply linN_freeSkip; (simp only [List.getElem?_toArray, List.getElem?_cons_succ, List.getElem?_cons_zero]; rfl); (rfl); try simp only [Act.put, List.setIfInBounds_toArray, List.set_cons_zero, List.set_cons_succ])); (first | (apply linN_free; (simp only [List.getElem?_toArray, List.getElem?_cons_succ, List.getElem?_cons_zero]; rfl); (rfl); (intro w'; (first | (go_simp; done) | (go_simp; with_reducible rfl) | (go_simp; go_bits; with_reducible rfl) | (go_simp; go_bits; done))); try simp only [Act.put, List.setIfInBounds_toArray, List.set_cons_zero, List.set_cons_succ]) | (apply linN_freeSkip; (simp only [List.getElem?_toArray, List.getElem?_cons_succ, List.getElem?_cons_zero]; rfl); (rfl); try simp only [Act.put, List.setIfInBounds_toArray, List.set_cons_zero, List.set_cons_succ])); (first | (apply linN_free; (simp only [List.getElem?_toArray, List.getElem?_cons_succ, List.getElem?_cons_zero]; rfl); (rfl); (intro w'; (first | (go_simp; done) | (go_simp; with_reducible rfl) | (go_simp; go_bits; with_reducible rfl) | (go_simp; go_bits; done))); try simp only [Act.put, List.setIfInBounds_toArray, List.set_cons_zero, List.set_cons_succ]) | (apply linN_freeSkip; (simp only [List.getElem?_toArray, List.getElem?_cons_succ, List.getElem?_cons_zero]; rfl); (rfl); try simp only [Act.put, List.setIfInBounds_toArray, List.set_cons_zero, List.set_cons_succ])); (first | (apply linN_free; (simp only [List.getElem?_toArray, List.getElem?_cons_succ, List.getElem?_cons_zero]; rfl); (rfl); (intro w'; (first | (go_simp; done) | (go_simp; with_reducible rfl) | (go_simp; go_bits; with_reducible rfl) | (go_simp; go_bits; done))); try simp only [Act.put, List.setIfInBounds_toArray, List.set_cons_zero, List.set_cons_succ]) | (apply linN_freeSkip; (simp only [List.getElem?_toArray, List.getElem?_cons_succ, List.getElem?_cons_zero]; rfl); (rfl); try simp only [Act.put, List.setIfInBounds_toArray, List.set_cons_zero, List.set_cons_succ])); (first | (apply linN_pass (wayB _) (wayB _); (simp only [List.getElem?_toArray, List.getElem?_cons_succ, List.getElem?_cons_zero]; rfl); (rfl); try simp only [Act.put, List.setIfInBounds_toArray, List.set_cons_zero, List.set_cons_succ]) | (apply linN_op; (simp only [List.getElem?_toArray, List.getElem?_cons_succ, List.getElem?_cons_zero]; rfl); (rfl); intro K hK; (first | (refine wp_cpP (k := k) rfl (by first | rfl | (go_simp; rfl)) (by first | rfl | (go_simp; rfl)) rfl hrd hrd hll2 hll ?_; intro W2 hu2; have hrw2 := hu2.row; rw [hsp] at hrw2; have hb2 := hu2.below (Nat.le_refl _)) | (go_simp; (first | skip))); refine hK _ _ ?_ ?_; (exact trivial); clear hK; try simp only [Act.put, List.setIfInBounds_toArray, List.set_cons_zero, List.set_cons_succ])); (first | (apply linN_free; (simp only [List.getElem?_toArray, List.getElem?_cons_succ, List.getElem?_cons_zero]; rfl); (rfl); (intro w'; (first | (go_simp; done) | (go_simp; with_reducible rfl) | (go_simp; go_bits; with_reducible rfl) | (go_simp; go_bits; done))); try simp only [Act.put, List.setIfInBounds_toArray, List.set_cons_zero, List.set_cons_succ]) | (apply linN_freeSkip; (simp only [List.getElem?_toArray, List.getElem?_cons_succ, List.getElem?_cons_zero]; rfl); (rfl); try simp only [Act.put, List.setIfInBounds_toArray, List.set_cons_zero, List.set_cons_succ])); (first | (apply linN_free; (simp only [List.getElem?_toArray, List.getElem?_cons_succ, List.getElem?_cons_zero]; rfl); (rfl); (intro w'; (first | (go_simp; done) | (go_simp; with_reducible rfl) | (go_simp; go_bits; with_reducible rfl) | (go_simp; go_bits; done))); try simp only [Act.put, List.setIfInBounds_toArray, List.set_cons_zero, List.set_cons_succ]) | (apply linN_freeSkip; (simp only [List.getElem?_toArray, List.getElem?_cons_succ, List.getElem?_cons_zero]; rfl); (rfl); try simp only [Act.put, List.setIfInBounds_toArray, List.set_cons_zero, List.set_cons_succ])); refine linN_end ?_)
      go_wp2
      refine ⟨?rel, ?measure⟩
      case rel => exact ⟨k + min k (n - k), hmn2.2, fun _ => by omega, rfl, hrw2, hb.trans ((below_drew (Below.refl gr wr)).trans hb2)⟩
      case measure => simp [intOf]; omega
    · obtain rfl : k = n := by omega
      rw [Nat.sub_self, List.replicate_zero, List.append_nil] at hr
      go_wp2
      go_ret
      exact ⟨gr, rfl, Nat.le_of_eq hgr, hr, by rw [hgr]; exact hb⟩
end Go.Proofs.Ytmdmhjcdaejlkaa
