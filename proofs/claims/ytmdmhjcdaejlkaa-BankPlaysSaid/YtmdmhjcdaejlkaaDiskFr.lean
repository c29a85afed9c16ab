/- The device without stops; bytes compared, made, read as a text. -/
import Derived.Test.YtmdmhjcdaejlkaaGC
set_option linter.unusedVariables false
set_option linter.unusedSimpArgs false
namespace Go.Proofs.Ytmdmhjcdaejlkaa
open Go.RowKit

/-- bytes that were just built -/
theorem bytes_lit (W : World) (base : Nat) (xs : List UInt8) (n : Nat) (hn : n = xs.length) (hl : n ≤ maxLen) (cs : Array Value) (hcs : cs = (bv xs).toArray) : BytesAt (W.alloc (.cells cs 5)) base (.slice (some ⟨W.heap.size, 0, none⟩) n n) xs := by
  subst hn hcs
  exact BytesAt.of_own (row_own (B := 0) (Row.new W _ 5) rfl (Nat.zero_le _) hl)
theorem conv_own {w : World} {B : Nat} {v : Value} {xs : List UInt8} (h : OwnB w B 5 v xs) : (convert 24 9 v).run Try.prog w = .ok (.string (strB xs)) w := by
  obtain ⟨A, c, rfl, _, _, hr⟩ := h.form
  exact run_str (P := Try.prog) w 24 5 Try.underlying24 Try.underlying5 A _ c _ hr 9 Try.underlying9
theorem c_sameT (W : World) (B1 B2 : Nat) (v u : Value) (xs ys : List UInt8) (h1 : OwnB W B1 5 v xs) (h2 : OwnB W B2 5 u ys) (e : xs = ys) :
    Calls Try.prog 25 #[v, u] W fun e w' => e = .returned (.bool true) ∧ W = w' := by
  subst e
  have s1 := conv_own h1
  have s2 := conv_own h2
  go_enter Try.func25, Try.ntmps25
  go_wp2
  exact ⟨rfl, .bool true, by simp [results, Try.results25], rfl, rfl⟩
theorem run_makeB (W : World) (n : Nat) (hn : n ≤ 140737488355328) : ∃ W', (Instr.makeSlice 24 (.int .i64 (n : Int)) (.int .i64 (n : Int))).run Try.prog W = .ok (.slice (some ⟨W.heap.size, 0, none⟩) n n) W' ∧ OwnB W' W.heap.size 5 (.slice (some ⟨W.heap.size, 0, none⟩) n n) (List.replicate n 0) ∧ Below W.heap.size W W' := by
  obtain ⟨i, h1, h2, h3, h4⟩ := info_parts8
  obtain ⟨W', hrun, ho, hgr⟩ := run_make_full (P := Try.prog) W W.heap.size 24 5 i (.int .u8 0) 1 Try.underlying24 h1 h2 h3 .i64 .i64 n (by rw [h4]; omega) (by unfold maxLen; omega) (Nat.le_refl _)
  refine ⟨W', hrun, ?_, ⟨hgr.os, hgr.tape, hgr.output, hgr.size, fun k hk => hgr.block k hk (by simp)⟩⟩
  unfold OwnB
  rw [List.length_replicate, bv_rep]
  have e : (madeCells (Value.int .u8 0).cells (n * 1)).toList = List.replicate n (.int .u8 0) := by
    rw [Nat.mul_one]; exact toList_madeCells_one _ _
  rwa [e] at ho
theorem wf_i64 {x : Int} (h1 : -9223372036854775808 ≤ x) (h2 : x ≤ 9223372036854775807) : (Lit.int .i64 x).wf = true := by
  simp [Lit.wf, IntKind.min, IntKind.max, IntKind.signed, IntKind.bits]; omega
/-- no stop is set, and the power is there -/
structure Free (D : Dk) : Prop where
  off : D.off = false
  af : D.after = -1
theorem Free.goes {D : Dk} (h : Free D) : D.goes = false := by unfold Dk.goes; rw [h.off, h.af]; rfl
theorem Free.step {D : Dk} (h : Free D) : Free D.step := ⟨rfl, by show (if 0 < D.after then D.after - 1 else D.after) = -1; rw [h.af]; rfl⟩
theorem Free.write {D : Dk} (h : Free D) (a : Int) (xs : List UInt8) : Free (D.write a xs) := by
  unfold Dk.write
  split
  · exact ⟨rfl, h.step.af⟩
  · exact ⟨rfl, h.step.af⟩
theorem Free.read {D : Dk} (h : Free D) (a : Int) : Free (D.read a) := ⟨rfl, h.step.af⟩
theorem Free.flush {D : Dk} (h : Free D) : Free D.flush := ⟨rfl, h.step.af⟩
theorem Free.crash (D : Dk) (ch : List Int) : Free (D.crash ch) := ⟨rfl, rfl⟩
theorem fitL_nil (n : Int) : fitL n [] = List.replicate n.toNat 0 := by simp [fitL, copyL]
theorem write_blocks (D : Dk) (a : Int) (xs : List UInt8) : (D.write a xs).blocks = D.blocks := by unfold Dk.write; split <;> rfl
theorem write_size (D : Dk) (a : Int) (xs : List UInt8) : (D.write a xs).size = D.size := by unfold Dk.write; split <;> rfl
theorem write_stable (D : Dk) (a : Int) (xs : List UInt8) : (D.write a xs).stable = D.stable := by unfold Dk.write; split <;> rfl
theorem write_has (D : Dk) (a i : Int) (xs : List UInt8) : (D.write a xs).has i = D.has i := by unfold Dk.has; rw [write_blocks]
theorem write_trace (D : Dk) (a : Int) (xs : List UInt8) : (D.write a xs).trace = D.trace ++ [⟨2, a, headL (fitL D.size xs), fitL D.size xs⟩] := by unfold Dk.write; split <;> rfl
theorem at_not {D : Dk} {a : Int} (h : D.has a = false) (m : Int → List UInt8) : D.at_ m a = [] := by unfold Dk.at_; rw [h]; rfl
theorem at_yes {D : Dk} {a : Int} (h : D.has a = true) (m : Int → List UInt8) : D.at_ m a = fitL D.size (m a) := by unfold Dk.at_; rw [h]; rfl
theorem write_now {D : Dk} {a : Int} (h : D.has a = true) (xs : List UInt8) : (D.write a xs).now = fun j => if j = a then fitL D.size xs else D.now j := by unfold Dk.write; rw [if_pos h]
theorem write_loose {D : Dk} {a : Int} (h : D.has a = true) (xs : List UInt8) : (D.write a xs).loose = D.loose ++ [(a, fitL D.size xs)] := by unfold Dk.write; rw [if_pos h]
theorem has_false {D : Dk} {a : Int} (h : a < 0 ∨ D.blocks ≤ a) : D.has a = false := by unfold Dk.has; simp; omega
theorem has_true {D : Dk} {a : Int} (h : 0 ≤ a) (h2 : a < D.blocks) : D.has a = true := by unfold Dk.has; simp; omega
end Go.Proofs.Ytmdmhjcdaejlkaa
