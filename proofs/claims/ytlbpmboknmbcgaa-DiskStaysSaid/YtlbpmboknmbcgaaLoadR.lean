/- A whole struct loaded from whatever address, its cells known. -/
import Derived.Test.YtlbpmboknmbcgaaMem
set_option linter.unusedVariables false
namespace Go.Proofs.Ytlbpmboknmbcgaa
open Go.RowKit

theorem run_loadR {P : Program} {ty : TypeId} {W : World} {ad : Addr} {vs : List Value} (ha : (isAgg ty).run P W = .ok true W) (hi : (P.info? ty).map (·.size) = some vs.length) (h : ∀ j v, vs[j]? = some v → W.cell? (ad.add j) = some v) :
    (loadVar ty ad).run P W = .ok (.agg vs.toArray) W := by
  cases hq : P.info? ty with
  | none => rw [hq] at hi; cases hi
  | some i =>
    rw [hq] at hi
    have hs : i.size = vs.length := by simpa using hi
    have hl := run_loadCells_list (P := P) (w := W) ad vs h
    simp [loadVar, Sem.run_bind, ha, sizeOf, typeInfo, hq, hs, hl]
theorem wpl_loadR {P : Program} {ops : Array Oper} {rest : List Oper} {o : Oper} {a : Act} {W : World} {Q : Exit → Act → World → Prop} {ty : TypeId} {x : Operand} {ad : Addr} (vs : List Value)
    (ho : o.op = .load ty x) (hw : Region.wanted o (yielded ops a.tmps) = true) (hx : a.eval x = .pointer (some ad)) (ha : (isAgg ty).run P W = .ok true W) (hi : (P.info? ty).map (·.size) = some vs.length) (hc : ∀ j v, vs[j]? = some v → W.cell? (ad.add j) = some v)
    (h : wpList P ops Q rest (a.put o.dst (.agg vs.toArray)) W) : wpList P ops Q (o :: rest) a W := by
  refine wpList_step fun K hK => ?_
  rw [if_pos hw]
  have hl := run_loadR ha hi hc
  unfold Oper.wp execOp
  simp only [ho, hx, Instr.loadAt, Instr.sureAddr, Sem.run_bind, Sem.run_pure, Result.andThen_ok, hl]
  exact hK _ _ h
end Go.Proofs.Ytlbpmboknmbcgaa
