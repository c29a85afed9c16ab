/- disk.Try. -/
import Derived.Test.YtlbpmboknmbcgaaDiskC
import Derived.Defers
import Derived.Recover
import Derived.Laws.Pointers
set_option linter.unusedVariables false
set_option linter.unusedSimpArgs false
namespace Go.Proofs.Ytlbpmboknmbcgaa
open Go.RowKit

theorem try_idle (p : Addr) (w : World) :
    CallsD Try.prog 68 #[.pointer (some p)] .returning w fun e u' w' => e = .returned (.tuple #[]) ∧ u' = .returning ∧ w' = w := by
  refine callsD_of_wpS Try.func68 rfl fun c₀ cs hu => ?_
  apply wpS_seq
  apply wpS_region
  simp [wpOpsS, go_sem, recoverD, hu, Try.ntmps68, Exit.thenS]
  refine wpS_of_wp ?_
  change Code.wp _ _ _ { tmps := #[.pointer (some p), .nilIface, undef, undef, .nilIface, undef, undef, undef, undef, undef, undef, undef, undef, undef, undef], defers := [] } w
  go_wp2
  cases c₀
  simp_all [bodyPostS, results, Try.results68]
set_option maxRecDepth 100000 in
theorem try_gone (p : Addr) (older : List PanicEntry) (x : Value) (w : World) (hc : w.cell? p = some x) (hz : w.frozen? p = false) (hlt : p.block < w.heap.size) :
    CallsD Try.prog 68 #[.pointer (some p)] (.panicking ({ v := goneV, recovered := false } :: older)) w fun e u' w' =>
      e = .returned (.tuple #[]) ∧ u' = .panicking ({ v := goneV, recovered := true } :: older) ∧ w' = (w.alloc (.cells #[] 88)).setCell p (.bool false) := by
  have hta : ∀ w, (Instr.typeAssert (.iface 88 (.agg #[])) 20 88 true).run Try.prog w = .ok (.tuple #[.agg #[], .bool true]) w := fun _ => by kernel_rfl
  have hst : ∀ (w : World) (a : Addr), (storeVar 88 a (.agg #[])).run Try.prog w = .ok () w := fun _ _ => by kernel_rfl
  have hz2 := ((below_alloc (Below.refl w.heap.size w) (.cells #[] 88)).frozen (p := p) hlt).trans hz
  have hc2 := ((below_alloc (Below.refl w.heap.size w) (.cells #[] 88)).cell (p := p) hlt).trans hc
  refine callsD_of_wpS Try.func68 rfl fun c₀ cs hu => ?_
  unfold goneV at *
  apply wpS_seq
  apply wpS_region
  simp [wpOpsS, go_sem, recoverD, hu, Try.ntmps68, Exit.thenS]
  refine wpS_of_wp ?_
  change Code.wp _ _ _ { tmps := #[.pointer (some p), .iface 88 (.agg #[]), undef, undef, .iface 88 (.agg #[]), undef, undef, undef, undef, undef, undef, undef, undef, undef, undef], defers := [] } w
  go_wp2
  simp [bodyPostS, results, Try.results68]
set_option maxRecDepth 100000 in
theorem c_tryOk {K : FuncId} {caps : Array Value} (W : World) (R : World → Prop) (hcf : ∀ w, (callFunc K caps).run Try.prog w = .ok (.enter K caps) w)
    (h : Calls Try.prog K caps (W.alloc (.cells #[.bool false] 4)) fun e w' => e = .returned (.tuple #[]) ∧ Row w' W.heap.size #[.bool false] 4 ∧ R w') :
    Calls Try.prog 25 #[.func (Fn.func K) #[] caps] W fun e w' => e = .returned (.bool true) ∧ ∃ w1, R w1 ∧ Row w1 W.heap.size #[.bool false] 4 ∧ w' = w1.setCell ⟨W.heap.size, 0, none⟩ (.bool true) := by
  have hmf : ∀ (fn : Fn) (first cap : Array Value) (w : World), (Instr.makeFunc fn first cap).run Try.prog w = .ok (.func fn first cap) w := fun _ _ _ _ => rfl
  go_enter_defers Try.func25, Try.ntmps25
  go_wp2_with fail
  refine h.mono ?_
  rintro e w1 ⟨rfl, hr, hR⟩
  have c0 := hr.cell 0 rfl
  have fz := hr.free 0
  go_wp2
  refine leaves_cons (f := 68) (args := #[.pointer (some ⟨W.heap.size, 0, none⟩)]) (by simp) (by simp [go_sem]) ?_
  refine (try_idle ⟨W.heap.size, 0, none⟩ _).mono ?_
  rintro e u' w'' ⟨rfl, rfl, rfl⟩
  have hr2 := hr.set 0 (.bool true)
  have c02 := hr2.cell 0 rfl
  simp [Leaves, settle, results, Try.results25, go_sem, c02]
  exact ⟨w1, hR, hr, rfl⟩
set_option maxRecDepth 100000 in
theorem c_tryGone {K : FuncId} {caps : Array Value} (W : World) (R : World → Prop) (hcf : ∀ w, (callFunc K caps).run Try.prog w = .ok (.enter K caps) w)
    (h : Calls Try.prog K caps (W.alloc (.cells #[.bool false] 4)) fun e w' => e = gonePanic ∧ Row w' W.heap.size #[.bool false] 4 ∧ R w') :
    Calls Try.prog 25 #[.func (Fn.func K) #[] caps] W fun e w' => e = .returned (.bool false) ∧ ∃ w1, R w1 ∧ Row w1 W.heap.size #[.bool false] 4 ∧ w' = (w1.alloc (.cells #[] 88)).setCell ⟨W.heap.size, 0, none⟩ (.bool false) := by
  have hmf : ∀ (fn : Fn) (first cap : Array Value) (w : World), (Instr.makeFunc fn first cap).run Try.prog w = .ok (.func fn first cap) w := fun _ _ _ _ => rfl
  go_enter_defers Try.func25, Try.ntmps25
  go_wp2_with fail
  refine h.mono ?_
  rintro e w1 ⟨rfl, hr, hR⟩
  have c0 := hr.cell 0 rfl
  have fz := hr.free 0
  unfold gonePanic
  go_wp2
  refine leaves_cons (f := 68) (args := #[.pointer (some ⟨W.heap.size, 0, none⟩)]) (by simp) (by simp [go_sem]) ?_
  refine (try_gone ⟨W.heap.size, 0, none⟩ _ _ _ c0 fz hr.lt).mono ?_
  rintro e u' w'' ⟨rfl, rfl, rfl⟩
  have hr2 := (hr.alloc (.cells #[] 88)).set 0 (.bool false)
  have c02 := hr2.cell 0 rfl
  simp [Leaves, settle, results, Try.results25, go_sem, c02]
  exact ⟨w1, hR, hr, rfl⟩
end Go.Proofs.Ytlbpmboknmbcgaa
