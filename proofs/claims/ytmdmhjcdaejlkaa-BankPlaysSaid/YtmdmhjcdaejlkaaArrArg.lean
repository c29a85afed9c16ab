/- An array of bytes by value as a parameter: opened. -/
import Derived.Test.YtmdmhjcdaejlkaaMem
import Derived.OpenShut
import Derived.ChangeArms
import Derived.WideShapes
set_option linter.unusedVariables false
set_option linter.unusedSimpArgs false
namespace Go.Proofs.Ytmdmhjcdaejlkaa
open Go.RowKit Go.ChangeShapes Go.WideShapes

theorem open_arrB {H : Type} {enc : TypeId × Value → H} {P : Program} {w : World} {base : Nat} {spare : Nat → Bool} {held : Bool} {r : Reach} {b0 : Nat} {t e : TypeId} {N : Nat} {v : Value} {d : DataW H} {p : List MemPlace}
    (ht : P.underlying t = some (.array N e)) (he : P.underlying e = some (.int .u8)) (hc : P.cellsOf e = 1) (hN : P.cellsOf t = N) (hv : Value.okWide P w r b0 t v) (h : DataW.Trod enc P w base spare held t v d p) :
    ∃ key : List UInt8, key.length = N ∧ v = .agg (bv key).toArray := by
  unfold Value.okWide at hv
  rw [ht] at hv
  obtain ⟨cs, rfl, hsz, _⟩ := hv
  rw [hN] at hsz
  obtain ⟨fuel, hf⟩ := h
  obtain ⟨xs, m, _, _, _, hxl, hg⟩ := DataW.trod_array ht hf
  have hcell : ∀ i, i < N → ∃ n : Int, cs.toList[i]? = some (.int .u8 n) ∧ (Lit.int .u8 n).wf = true := by
    intro i hi
    have h1 := hg i hi
    rw [hc, Nat.mul_one, List.getElem?_eq_getElem (by omega)] at h1
    obtain ⟨n, hn, _, hw⟩ := DataW.trod_int he h1
    refine ⟨n, ?_, hw⟩
    have h2 : ((Value.agg cs).cells.toList.drop i)[0]? = some (.int .u8 n) := by
      have := congrArg (·[0]?) hn
      simpa [List.getElem?_take] using this
    rw [List.getElem?_drop, Nat.add_zero] at h2
    exact h2
  have hex : ∀ i, ∃ b : UInt8, i < N → cs.toList[i]? = some (.int .u8 (b.toNat : Int)) := by
    intro i
    by_cases hi : i < N
    · obtain ⟨n, hn, hw⟩ := hcell i hi
      have hr : 0 ≤ n ∧ n ≤ 255 := by simpa [Lit.wf, IntKind.min, IntKind.max, IntKind.signed, IntKind.bits] using hw
      refine ⟨UInt8.ofNat n.toNat, fun _ => ?_⟩
      rw [hn]
      have : (UInt8.ofNat n.toNat).toNat = n.toNat := by simp; omega
      rw [this, Int.toNat_of_nonneg hr.1]
    · exact ⟨0, fun h => absurd h hi⟩
  have hf2 : ∃ f : Nat → UInt8, ∀ i, i < N → cs.toList[i]? = some (.int .u8 ((f i).toNat : Int)) := ⟨fun i => (hex i).choose, fun i => (hex i).choose_spec⟩
  obtain ⟨f, hf2⟩ := hf2
  refine ⟨(List.range N).map f, by simp, ?_⟩
  congr 1
  apply Array.ext'
  show cs.toList = bv ((List.range N).map f)
  apply List.ext_getElem?
  intro i
  rw [bv_get, List.getElem?_map]
  by_cases hi : i < N
  · rw [List.getElem?_range hi, hf2 i hi]
    rfl
  · rw [List.getElem?_eq_none (by rw [Array.length_toList]; omega), List.getElem?_eq_none (by simp; omega)]
    rfl
end Go.Proofs.Ytmdmhjcdaejlkaa
