/- Another panic goes through disk.Try; the law's own deferred closure ends it. -/
import Derived.Test.YtlbpmboknmbcgaaTry
import Derived.Test.YtlbpmboknmbcgaaDiskF
set_option linter.unusedVariables false
set_option linter.unusedSimpArgs false
namespace Go.Proofs.Ytlbpmboknmbcgaa
open Go.RowKit

def otherV : Value := .iface 9 (.string ⟨#[97, 110, 111, 116, 104, 101, 114, 32, 111, 110, 101]⟩)
theorem other_panics (W : World) : Calls Try.prog 34 #[] W fun e w' => e = .panicked [{ v := otherV, recovered := false }] ∧ W = w' := by
  go_enter Try.func34, Try.ntmps34
  go_wp2
  exact ⟨rfl, rfl, rfl⟩
set_option maxRecDepth 100000 in
theorem try_other (p : Addr) (older : List PanicEntry) (w : World) :
    CallsD Try.prog 68 #[.pointer (some p)] (.panicking ({ v := otherV, recovered := false } :: older)) w fun e u' w' =>
      e = .panicked [{ v := otherV, recovered := false }] ∧ u' = .panicking ({ v := otherV, recovered := true } :: older) ∧ w' = w.alloc (.cells #[] 88) := by
  have hta : ∀ w, (Instr.typeAssert otherV 20 88 true).run Try.prog w = .ok (.tuple #[.agg #[], .bool false]) w := fun _ => by kernel_rfl
  have hst : ∀ (w : World) (a : Addr), (storeVar 88 a (.agg #[])).run Try.prog w = .ok () w := fun _ _ => by kernel_rfl
  refine callsD_of_wpS Try.func68 rfl fun c₀ cs hu => ?_
  unfold otherV at *
  apply wpS_seq
  apply wpS_region
  simp [wpOpsS, go_sem, recoverD, hu, Try.ntmps68, Exit.thenS]
  refine wpS_of_wp ?_
  change Code.wp _ _ _ { tmps := #[.pointer (some p), otherV, undef, undef, otherV, undef, undef, undef, undef, undef, undef, undef, undef, undef, undef], defers := [] } w
  unfold otherV
  go_wp2
  exact ⟨rfl, _, rfl, rfl, rfl, rfl⟩
set_option maxRecDepth 100000 in
theorem c_tryOther (W : World) :
    Calls Try.prog 25 #[.func (Fn.func 34) #[] #[]] W fun e w' => e = .panicked [{ v := otherV, recovered := false }, { v := otherV, recovered := true }] ∧ Below W.heap.size W w' := by
  have hmf : ∀ (fn : Fn) (first cap : Array Value) (w : World), (Instr.makeFunc fn first cap).run Try.prog w = .ok (.func fn first cap) w := fun _ _ _ _ => rfl
  have hcf : ∀ w, (callFunc 34 #[]).run Try.prog w = .ok (.enter 34 #[]) w := fun _ => by kernel_rfl
  have hb0 := below_alloc (Below.refl W.heap.size W) (.cells #[.bool false] 4)
  go_enter_defers Try.func25, Try.ntmps25
  go_wp2_with fail
  refine (other_panics _).mono ?_
  rintro e w1 ⟨rfl, rfl⟩
  go_wp2
  refine leaves_cons (f := 68) (args := #[.pointer (some ⟨W.heap.size, 0, none⟩)]) (by simp) (by simp [go_sem]) ?_
  refine (try_other ⟨W.heap.size, 0, none⟩ _ _).mono ?_
  rintro e u' w'' ⟨rfl, rfl, rfl⟩
  exact ⟨rfl, below_alloc hb0 _⟩
set_option maxRecDepth 100000 in
theorem cuts_rec (p : Addr) (older : List PanicEntry) (w : World) (hc : w.cell? p = some (.int .i64 0)) (hz : w.frozen? p = false) :
    CallsD Try.prog 33 #[.pointer (some p)] (.panicking ({ v := otherV, recovered := false } :: older)) w fun e u' w' =>
      e = .returned (.tuple #[]) ∧ u' = .panicking ({ v := otherV, recovered := true } :: older) ∧ w' = w.setCell p (.int .i64 1) := by
  refine callsD_of_wpS Try.func33 rfl fun c₀ cs hu => ?_
  unfold otherV at *
  apply wpS_seq
  apply wpS_region
  simp [wpOpsS, go_sem, recoverD, hu, Try.ntmps33, Exit.thenS, Oper.upon, execOp]
  refine wpS_of_wp ?_
  change Code.wp _ _ _ { tmps := #[.pointer (some p), otherV, .bool true, undef, undef], defers := [] } w
  unfold otherV
  go_wp2
  simp [bodyPostS, results, Try.results33]
set_option maxRecDepth 100000 in
theorem c_cuts2 (W : World) (g : Nat) (hr : Row W g #[.int .i64 0] 3) : Calls Try.prog 32 #[.pointer (some ⟨g, 0, none⟩)] W fun e w' => e = .returned (.tuple #[]) ∧ Row w' g #[.int .i64 1] 3 ∧ ∀ bs, bs ≤ g → FR [3] [] bs W w' := by
  have hmf : ∀ (fn : Fn) (first cap : Array Value) (w : World), (Instr.makeFunc fn first cap).run Try.prog w = .ok (.func fn first cap) w := fun _ _ _ _ => rfl
  go_enter_defers Try.func32, Try.ntmps32
  go_wp2_with fail
  refine (c_tryOther _).mono ?_
  rintro e w1 ⟨rfl, hb⟩
  go_wp2
  have hr1 := hr.below hb hr.lt
  have c0 := hr1.cell 0 rfl
  have fz := hr1.free 0
  refine leaves_cons (f := 33) (args := #[.pointer (some ⟨g, 0, none⟩)]) (by simp) (by simp [go_sem]) ?_
  refine (cuts_rec ⟨g, 0, none⟩ _ _ c0 fz).mono ?_
  rintro e u' w'' ⟨rfl, rfl, rfl⟩
  have hr2 := hr1.set 0 (.int .i64 1)
  have hf : ∀ bs, bs ≤ g → FR [3] [] bs W (w1.setCell ⟨g, 0, none⟩ (.int .i64 1)) := fun bs hbs => (FR.of_below hb (by have := hr.lt; omega)).trans (FR.of_upd (upd_cell hr1 _) hr1 (by simp) hbs)
  simp [Leaves, settle, results, Try.results32, go_sem]
  exact ⟨hr2, hf⟩
end Go.Proofs.Ytlbpmboknmbcgaa
