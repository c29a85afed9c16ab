/- append(v, make([]byte, k)...) onto bytes of the call's own. -/
import Derived.Test.YtmdmhjcdaejlkaaArr
import Derived.Lib.AppendZerosOnto
set_option linter.unusedVariables false
set_option linter.unusedSimpArgs false
namespace Go.Proofs.Ytmdmhjcdaejlkaa
open Go.RowKit

theorem zc_list (k : Nat) : (Builtin.zeroCells (Value.int .u8 0).cells k).toList = List.replicate k (.int .u8 0) := by
  apply List.ext_getElem
  · simp [Builtin.zeroCells, Value.cells]
  · intro i h1 h2
    simp [Builtin.zeroCells, Value.cells]
    have : i % 1 = 0 := Nat.mod_one i
    simp [this]
theorem run_zeros (w : World) (base n k : Nat) (v : Value) (xs : List UInt8) (ty : TypeId) (h : OwnB w base 5 v xs) (hn : 0 < xs.length) (hm : xs.length + k ≤ 1000000) (hb : base ≤ w.heap.size) :
    ∃ v' w', (Builtin.append_ #[24, 3] ty #[v, .int .i64 (k : Int)]).run Try.prog w = .ok v' w' ∧ OwnB w' base 5 v' (xs ++ List.replicate k 0) ∧ w.grownBy w' v.ownBlock ∧
      (v'.ownBlock = v.ownBlock ∨ v'.ownBlock = some w.heap.size) := by
  obtain ⟨i, hi, hz, hs, hby⟩ := info_parts8
  rcases h.2 with ⟨_, h0⟩ | ⟨g, cap, cur, rfl, hbg, hh, hnc, hcm, hsz, htake⟩
  · omega
  · rw [Nat.mul_one] at hsz htake
    have hlx : xs.length = xs.length := rfl
    generalize hN : xs.length = N at *
    have hw : IntKind.i64.wrap (k : Int) = k := by rw [IntKind.wrap_i64]; omega
    have hneg : ¬ ((k : Int) < 0) := by omega
    have h48i : ¬ (281474976710656 < (k : Int)) := by omega
    have hti : Try.prog.underlying 3 = some (.int .i64) := Try.underlying3
    have htb := Try.underlying24
    by_cases hfit : N + k ≤ cap
    · by_cases hk : k = 0
      · subst hk
        refine ⟨_, w, ?_, by simpa using h, World.grownBy.refl _ _, .inl rfl⟩
        have hw0 : IntKind.i64.wrap 0 = 0 := by decide
        simp [Builtin.append_, run_underlying htb, run_underlying hti, sizeOf, typeInfo, hi, hs, hby, asInt, asIntOf, hw0, hnc, storeCells]
      · have hk0 : 0 < k := by omega
        have hst := run_storeCells_at (P := Try.prog) g N 5 (List.replicate k (.int .u8 0)) 0 cur w hh (by simp; omega) (by intro u hu; rw [List.eq_of_mem_replicate hu]; rfl)
        have hkn : ¬ (k : Int) ≤ 0 := by omega
        have hadd : (⟨g, 0, none⟩ : Addr).add N = ⟨g, N, none⟩ := by rw [ad_none, Nat.zero_add]
        refine ⟨.slice (some ⟨g, 0, none⟩) (N + k) cap, w.setRow g (cur.toList.take (N + 0) ++ List.replicate k (Value.int .u8 0) ++ cur.toList.drop (N + 0 + (List.replicate k (Value.int .u8 0)).length)).toArray, ?_, ?_, ?_, .inl rfl⟩
        · simp only [Nat.add_zero] at hst
          simp [Builtin.append_, run_underlying htb, run_underlying hti, sizeOf, typeInfo, zeroValue, hi, hz, hs, hby, asInt, asIntOf, hw, hneg, h48i, hfit, hk, hadd, zc_list, hst]
        · have hlen : (xs ++ List.replicate k 0).length = N + k := by simp [hN]
          unfold OwnB
          rw [hlen]
          refine ⟨by simp [bv_length, hN], .inr ⟨g, cap, _, rfl, hbg, setRow_heap w g cur _ _ _ hh, hfit, hcm, ?_, ?_⟩⟩
          · simp; omega
          · simp only [Nat.add_zero, Nat.mul_one]
            rw [htake, bv_append, bv_rep, List.take_append_of_le_length (by simp [bv_length]; omega), List.take_of_length_le (by simp [bv_length]; omega)]
        · exact ⟨rfl, rfl, rfl, by simp, fun j _ hj => setRow_other w g j _ (by intro e; subst e; simp [Value.ownBlock] at hj)⟩
    · have hk0 : 0 < k := by omega
      have hR := (Rd.of_own (e := 5) (base := base) (c := cap) (n := N) (A := some ⟨g, 0, none⟩) (vs := bv xs) (w := w) (by have := h; unfold OwnB at this; rwa [hN] at this))
      obtain ⟨ad, he, hc⟩ := hR.2 hn
      cases he
      have hold : (Builtin.firstCells i.size N (.slice (some ⟨g, 0, none⟩) N cap)).run Try.prog w.drew = .ok (bv xs).toArray w.drew := by
        have := run_loadCells_list (P := Try.prog) w.drew ⟨g, 0, none⟩ (bv xs) (fun j v hv => hc j v hv)
        rw [bv_length, hN] at this
        simp only [Builtin.firstCells, hs, Nat.mul_one]
        exact this
      have hrun := Go.Lib.run_append_grow_zeros (P := Try.prog) w 24 3 ty 5 i (.int .u8 0) .i64 .i64 htb hti hi hz (some ⟨g, 0, none⟩) N cap (bv xs) hold k hk0 (by omega) (by omega) (by omega) (by rw [hby]; omega) (by
        have := nextslicecap_le (need := N + k) (old := cap) (by omega)
        rw [hby]; omega)
      refine ⟨_, _, hrun, ?_, ⟨rfl, rfl, rfl, by simp, fun j hj _ => heap_alloc_old w.drew _ hj⟩, .inr rfl⟩
      have hlen : (xs ++ List.replicate k 0).length = N + k := by simp [hN]
      have hge := grownCap_ge w (N + k) cap 5
      have hcm2 := grownCap_le_maxLen w (N + k) cap 5 (by unfold maxLen; omega)
      unfold OwnB
      rw [hlen]
      refine ⟨by simp [bv_length, hN], .inr ⟨w.heap.size, _, _, rfl, hb, heap_alloc_new w.drew _, hge, hcm2, ?_, ?_⟩⟩
      · simp [Builtin.zeroCells, Value.cells, bv_length, hN]; omega
      · simp only [Array.toList_append, List.toList_toArray, zc_list, Nat.mul_one]
        rw [bv_append, bv_rep, List.take_append_of_le_length (by simp [bv_length, hN]), List.take_of_length_le (by simp [bv_length, hN])]
/-- append(v, make([]byte, k)...) -/
theorem wpl_zeros {ops : Array Oper} {rest : List Oper} {o : Oper} {a : Act} {Q : Exit → Act → World → Prop} {w0 W : World} {s x : Operand} {base k : Nat} {v : Value} {xs : List UInt8} (hgd : o.guard = none)
    (ho : o.op = .call { callee := .builtin .append, args := #[s, x], argTypes := #[24, 3] }) (hs : a.eval s = v) (hx : a.eval x = .int .i64 (k : Int))
    (h : OwnB W base 5 v xs) (hn : 0 < xs.length) (hm : xs.length + k ≤ 1000000) (hb : base ≤ W.heap.size) (HB : Below base w0 W)
    (hK : ∀ v1 w1, OwnB w1 base 5 v1 (xs ++ List.replicate k 0) → Below base w0 w1 → wpList Try.prog ops Q rest (a.put o.dst v1) w1) : wpList Try.prog ops Q (o :: rest) a W := by
  obtain ⟨v1, w1, hrun, ho1, hg1, -⟩ := run_zeros W base 0 k v xs o.type h hn hm hb
  exact Go.Lib.wpList_append_run W hgd s x _ _ ho _ _ hs hx v1 w1 hrun (hK v1 w1 ho1 (HB.grown hg1 hb (own_base h)))
end Go.Proofs.Ytmdmhjcdaejlkaa
