/- Bytes that are cut: run equations under one name. -/
import Derived.Test.YtmdmhjcdaejlkaaZeros
set_option linter.unusedVariables false
set_option linter.unusedSimpArgs false
namespace Go.Proofs.Ytmdmhjcdaejlkaa
open Go.RowKit

theorem elemB : Try.prog.elem 24 = 5 := by unfold Program.elem; rw [Try.underlying24]
theorem undB : Try.prog.underlying 24 = some (.slice (Try.prog.elem 24)) := by rw [elemB]; exact Try.underlying24
theorem sizeB (W : World) : (sizeOf (Try.prog.elem 24)).run Try.prog W = .ok 1 W := by
  obtain ⟨i, hi, _, hs, _⟩ := info_parts8
  rw [elemB]
  simp [sizeOf, typeInfo, hi, hs]
theorem rd_cut {W0 : World} {A : Option Addr} {n c : Nat} {xs : List UInt8} (hR : RdB W0 A n xs) (hc : n ≤ c) (l h : Nat) (hl : l ≤ h) (hh : h ≤ n) : RdB W0 (if c = l then A else A.map (·.add l)) (h - l) ((xs.drop l).take (h - l)) := by
  have hlen := hR.len
  refine ⟨by rw [bv_length, List.length_take, List.length_drop]; omega, fun h0 => ?_⟩
  obtain ⟨ad, rfl, hcc⟩ := hR.2 (by omega)
  rw [if_neg (by omega)]
  refine ⟨_, rfl, fun j v hv => ?_⟩
  rw [ad_add]
  apply hcc
  rw [bv_get, List.getElem?_take] at hv
  rw [bv_get]
  split at hv
  · rw [List.getElem?_drop] at hv; exact hv
  · cases hv
/-- b[l:h] -/
theorem cut_lh {W0 : World} {A : Option Addr} {n c : Nat} {xs : List UInt8} (hR : RdB W0 A n xs) (hc : n ≤ c) (x y : Int) (l h : Nat) (hx : x = (l : Int)) (hy : y = (h : Int)) (hl : l ≤ h) (hh : h ≤ n) :
    ∃ A', (∀ W, (Instr.slice 24 (.slice A n c) (some (.int .i64 x)) (some (.int .i64 y)) none).run Try.prog W = .ok (.slice A' (h - l) (c - l)) W) ∧ RdB W0 A' (h - l) ((xs.drop l).take (h - l)) := by
  subst hx hy
  refine ⟨_, fun W => ?_, rd_cut hR hc l h hl hh⟩
  have := run_slice_lh (P := Try.prog) W 24 A n c undB .i64 .i64 (l : Int) (h : Int) (by omega) (by omega) (by omega)
  rw [this, sizeB]
  simp [sliced]
/-- b[l:] -/
theorem cut_from {W0 : World} {A : Option Addr} {n c : Nat} {xs : List UInt8} (hR : RdB W0 A n xs) (hc : n ≤ c) (x : Int) (l : Nat) (hx : x = (l : Int)) (hl : l ≤ n) :
    ∃ A', (∀ W, (Instr.slice 24 (.slice A n c) (some (.int .i64 x)) none none).run Try.prog W = .ok (.slice A' (n - l) (c - l)) W) ∧ RdB W0 A' (n - l) (xs.drop l) := by
  subst hx
  have hr := rd_cut hR hc l n hl (Nat.le_refl _)
  rw [List.take_of_length_le (by rw [List.length_drop, hR.len]; exact Nat.le_refl _)] at hr
  refine ⟨_, fun W => ?_, hr⟩
  have := run_slice_l (P := Try.prog) W 24 A n c undB .i64 (l : Int) (by omega) (by omega)
  rw [this, sizeB]
  simp [sliced]
/-- b[:h] -/
theorem cut_to {W0 : World} {A : Option Addr} {n c : Nat} {xs : List UInt8} (hR : RdB W0 A n xs) (hc : n ≤ c) (y : Int) (h : Nat) (hy : y = (h : Int)) (hh : h ≤ n) :
    ∃ A', (∀ W, (Instr.slice 24 (.slice A n c) none (some (.int .i64 y)) none).run Try.prog W = .ok (.slice A' h c) W) ∧ RdB W0 A' h (xs.take h) := by
  subst hy
  have hr := rd_cut hR hc 0 h (Nat.zero_le _) hh
  rw [List.drop_zero, Nat.sub_zero] at hr
  refine ⟨_, fun W => ?_, hr⟩
  have := run_slice_h (P := Try.prog) W 24 A n c undB .i64 (h : Int) (by omega) (by omega)
  rw [this, sizeB]
  simp [sliced]
/-- a block of bytes, read whole as a slice -/
theorem row_all {W : World} {g n : Nat} {s : List UInt8} {T : TypeId} (h : Row W g (bv s).toArray T) (hn : s.length = n) : RdB W (some ⟨g, 0, none⟩) n s := by
  subst hn
  have := row_part h 0 s.length (by omega)
  rwa [List.drop_zero, List.take_length] at this
theorem row_from {W : World} {g n : Nat} {s : List UInt8} {T : TypeId} (h : Row W g (bv s).toArray T) (l : Nat) (hn : s.length = l + n) : RdB W (some ⟨g, l, none⟩) n (s.drop l) := by
  have := row_part h l n (by omega)
  rwa [List.take_of_length_le (by rw [List.length_drop]; omega)] at this
end Go.Proofs.Ytmdmhjcdaejlkaa
