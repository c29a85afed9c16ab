/- supr.text. -/
import Derived.Test.YtmdmhjcdaejlkaaAwk9
import Derived.ArgAppend
import Derived.Lib.AppendZerosOnto
import Derived.Lib.SlBytesConst
set_option linter.unusedVariables false
set_option linter.unusedSimpArgs false
namespace Go.Proofs.Ytmdmhjcdaejlkaa
open Go.RowKit

/-- an epoch's text -/
def textL (e : Nat) : List UInt8 := [101, 112, 111, 99, 104] ++ leP e 8
theorem textL_length (e : Nat) : (textL e).length = 13 := by unfold textL; rw [List.length_append, leP_length]; rfl
theorem wpl_appRun' {ops : Array Oper} {rest : List Oper} {o : Oper} {a : Act} {Q : Exit → Act → World → Prop} {W w1 : World} {s x : Operand} {v y v1 : Value} {t u : TypeId} (hgd : o.guard = none)
    (ho : o.op = .call { callee := .builtin .append, args := #[s, x], argTypes := #[t, u] }) (hs : a.eval s = v) (hx : a.eval x = y) (hrun : (Builtin.append_ #[t, u] o.type #[v, y]).run Try.prog W = .ok v1 w1)
    (hK : wpList Try.prog ops Q rest (a.put o.dst v1) w1) : wpList Try.prog ops Q (o :: rest) a W :=
  Go.Lib.wpList_append_run W hgd s x _ _ ho _ _ hs hx v1 w1 hrun hK
set_option maxHeartbeats 4000000 in
set_option maxRecDepth 100000 in
theorem c_text (e : Nat) (w : World) :
    Calls Try.prog 70 #[.int .u64 (e : Int)] w fun r w' => ∃ v, r = .returned v ∧ OwnB w' w.heap.size 5 v (textL e) ∧ Below w.heap.size w w' := by
  obtain ⟨i, hi, hz, hs, hby⟩ := info_parts8
  have hcv := Go.Lib.run_convert_bytes_const (P := Try.prog) w 24 5 #[.int .u8 101, .int .u8 112, .int .u8 111, .int .u8 99, .int .u8 104] 5 5 Try.underlying24 Try.underlying5
  have hb0 := below_alloc (Below.refl w.heap.size w) (.cells #[.int .u8 101, .int .u8 112, .int .u8 111, .int .u8 99, .int .u8 104] 5 (5, 6))
  have hr0 : RdB (w.alloc (.cells #[.int .u8 101, .int .u8 112, .int .u8 111, .int .u8 99, .int .u8 104] 5 (5, 6))) (some ⟨w.heap.size, 0, none⟩) 5 [101, 112, 111, 99, 104] := rd_lit w [.int .u8 101, .int .u8 112, .int .u8 111, .int .u8 99, .int .u8 104] 5 (5, 6) 5 rfl
  have HP := Lib.hid (fun W => c_lePut8 e W)
  have HI := Lib.hid (And.intro hi (And.intro hz (And.intro hs hby)))
  clear hi hz hs hby
  go_enter Try.func70, Try.ntmps70
  go_wp2_with fail
  refine (HP.out _).mono ?_
  rintro r w2 ⟨A2, c2, rfl, lc2, ho2, hr2, hb2⟩
  have hr02 := hr0.below hb2 (Nat.le_refl _)
  obtain ⟨ad0, e0, hc0⟩ := hr02.2 (by omega)
  cases e0
  obtain ⟨ad2, e2, hc2⟩ := hr2.2 (by omega)
  subst e2
  obtain ⟨v, w3, hrun, ho3, hg3⟩ := run_append_arg_grows (P := Try.prog) (w := w2) 24 24 5 i (.int .u8 0) 1 1 Try.underlying24 HI.out.1 HI.out.2.1 HI.out.2.2.1 HI.out.2.2.2 rfl (by decide) ⟨w.heap.size, 0, none⟩ 5 5 (bv [101, 112, 111, 99, 104]) rfl hc0 ad2 8 c2 (bv (leP e 8)) (by rw [bv_length, leP_length]) hc2 (by decide) (by decide) (by decide)
  have hsz : w.heap.size ≤ w2.heap.size := Nat.le_trans hb0.size hb2.size
  have ho : OwnB w3 w.heap.size 5 v (textL e) := by
    unfold OwnB
    rw [textL_length]
    unfold textL
    rw [bv_append]
    exact own_mono ho3 hsz
  have hB : Below w.heap.size w w3 := (below_two hb0 hb2).trans (Below.mono ⟨hg3.os, hg3.tape, hg3.output, hg3.size, fun k hk => hg3.block k hk (by simp)⟩ hsz)
  clear hcv hb0 hr0 hr02 hc0 hc2 hr2 ho2 hb2 ho3 hg3 HP HI
  go_wp2_with (at_builtin; refine wpl_appRun' rfl rfl rfl rfl hrun ?_)
  go_ret
  exact ⟨_, rfl, ho, hB⟩
end Go.Proofs.Ytmdmhjcdaejlkaa
