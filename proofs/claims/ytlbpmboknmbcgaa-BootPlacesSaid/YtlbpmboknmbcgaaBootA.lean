/- slices.Grow of nothing, slices.Concat. -/
import Derived.Test.YtlbpmboknmbcgaaParts
import Derived.Deep.Cut
import Derived.Test.YtlbpmboknmbcgaaEqB
import Derived.Test.YtlbpmboknmbcgaaMkB
set_option linter.unusedVariables false
set_option linter.unusedSimpArgs false
namespace Go.Proofs.Ytlbpmboknmbcgaa
open Go.RowKit

theorem run_zerosNil (w : World) (base k : Nat) (ty : TypeId) (hk : 0 < k) (hm : k ≤ 1000000) (hb : base ≤ w.heap.size) :
    ∃ c w', (Builtin.append_ #[22, 3] ty #[.slice none 0 0, .int .i64 (k : Int)]).run Try.prog w = .ok (.slice (some ⟨w.heap.size, 0, none⟩) k c) w' ∧ OwnB w' base 5 (.slice (some ⟨w.heap.size, 0, none⟩) k c) (List.replicate k 0) ∧ Below w.heap.size w w' ∧ k ≤ c := by
  obtain ⟨i, hi, hz, hs, hby⟩ := info_parts8
  have hti : Try.prog.underlying 3 = some (.int .i64) := Try.underlying3
  have htb := Try.underlying22
  have hold : (Builtin.firstCells i.size 0 (.slice none 0 0)).run Try.prog w.drew = .ok ([] : List Value).toArray w.drew := by simp [Builtin.firstCells]
  have hrun := Go.Lib.run_append_grow_zeros (P := Try.prog) w 22 3 ty 5 i (.int .u8 0) .i64 .i64 htb hti hi hz none 0 0 [] hold k hk (by omega) (by omega) (by omega) (by rw [hby]; omega) (by
    have := nextslicecap_le (need := 0 + k) (old := 0) (by omega)
    rw [hby]; omega)
  rw [Nat.zero_add] at hrun
  refine ⟨_, _, hrun, ?_, (show Below w.heap.size w w.drew from below_drew (Below.refl _ _)).alloc (Nat.le_refl _) _, grownCap_ge w k 0 5⟩
  have hge := grownCap_ge w k 0 5
  have hcm2 := grownCap_le_maxLen w k 0 5 (by unfold maxLen; omega)
  unfold OwnB
  rw [List.length_replicate]
  refine ⟨by simp [bv_length], .inr ⟨w.heap.size, _, _, rfl, hb, heap_alloc_new w.drew _, hge, hcm2, ?_, ?_⟩⟩
  · simp [Builtin.zeroCells, Value.cells]; omega
  · simp only [Array.toList_append, List.toList_toArray, zc_list, Nat.mul_one, List.nil_append]
    rw [bv_rep, List.take_append_of_le_length (by simp), List.take_of_length_le (by simp)]
theorem wpl_appRun {ops : Array Oper} {rest : List Oper} {o : Oper} {a : Act} {Q : Exit → Act → World → Prop} {W w1 : World} {s x : Operand} {v y v1 : Value} {t u : TypeId} (hgd : o.guard = none)
    (ho : o.op = .call { callee := .builtin .append, args := #[s, x], argTypes := #[t, u] }) (hs : a.eval s = v) (hx : a.eval x = y) (hrun : (Builtin.append_ #[t, u] o.type #[v, y]).run Try.prog W = .ok v1 w1)
    (hK : wpList Try.prog ops Q rest (a.put o.dst v1) w1) : wpList Try.prog ops Q (o :: rest) a W :=
  Go.Lib.wpList_append_run W hgd s x _ _ ho _ _ hs hx v1 w1 hrun hK
theorem run_nil0 (W : World) : (Instr.slice 22 (.slice none 0 0) none (some (.int .i64 0)) none).run Try.prog W = .ok (.slice none 0 0) W := by
  have := run_slice_h (P := Try.prog) W 22 none 0 0 undB .i64 (0 : Int) (by omega) (by omega)
  rw [this, sizeB]
  simp [sliced]
theorem run_cut0 (W : World) (g k c : Nat) (hk : k ≤ c) : (Instr.slice 22 (.slice (some ⟨g, 0, none⟩) k c) none (some (.int .i64 0)) none).run Try.prog W = .ok (.slice (some ⟨g, 0, none⟩) 0 c) W := by
  have := run_slice_h (P := Try.prog) W 22 (some ⟨g, 0, none⟩) k c undB .i64 (0 : Int) (by omega) (by omega)
  rw [this, sizeB]
  simp [sliced]
  intro _
  rfl
theorem own_cut0 {w : World} {B g k c : Nat} {e : TypeId} {xs : List UInt8} (h : OwnB w B e (.slice (some ⟨g, 0, none⟩) k c) xs) : OwnB w B e (.slice (some ⟨g, 0, none⟩) 0 c) [] := by
  rcases h.2 with ⟨h, _⟩ | ⟨g', cap, cur, h, hb, hh, hn, hm, hs, _⟩
  · cases h
  · cases h
    exact ⟨by simp [bv_length], .inr ⟨_, _, cur, rfl, hb, hh, Nat.zero_le _, hm, hs, by simp [bv]⟩⟩
set_option maxHeartbeats 1000000 in
set_option maxRecDepth 100000 in
theorem c_grow (n : Nat) (w : World) (h0 : 0 < n) (hm : n ≤ 1000000) :
    Calls Try.prog 85 #[.slice none 0 0, .int .i64 (n : Int)] w fun e w' => ∃ v, e = .returned v ∧ OwnB w' w.heap.size 5 v [] ∧ Below w.heap.size w w' := by
  obtain ⟨c, w1, hrun, ho, hb, hkc⟩ := run_zerosNil w w.heap.size n 22 h0 hm (Nat.le_refl _)
  have e0 := run_nil0
  have hi : ¬ ((n : Int) < 0) := by omega
  have hp : (0 : Int) < (n : Int) := by omega
  have e1 := fun W => run_cut0 W w.heap.size n c hkc
  go_enter Try.func85, Try.ntmps85
  go_wp2_with (at_builtin; refine wpl_appRun rfl rfl rfl rfl hrun ?_)
  go_ret
  exact ⟨_, rfl, own_cut0 ho, hb⟩
theorem PartsAt.below {W W' : World} {ad : Addr} {xss : List (List UInt8)} {B : Nat} (h : PartsAt W ad xss) (hb : Below B W W') (hB : W.heap.size ≤ B) (had : ad.block < W.heap.size) : PartsAt W' ad xss := by
  intro i xs hi
  obtain ⟨A, c, h1, h2, h3⟩ := h i xs hi
  exact ⟨A, c, by rw [World.cell?_of_block (hb.block _ (by rw [ad_block]; omega))]; exact h1, h2.below hb hB, h3⟩
theorem parts3 {W : World} {g : Nat} {T : TypeId} {A B C : Option Addr} {c d f : Nat} {xs ys zs : List UInt8} (h : Row W g #[.slice A xs.length c, .slice B ys.length d, .slice C zs.length f] T) (hx : RdB W A xs.length xs) (hy : RdB W B ys.length ys) (hz : RdB W C zs.length zs) (h1 : xs.length ≤ 1000000) (h2 : ys.length ≤ 1000000) (h3 : zs.length ≤ 1000000) :
    PartsAt W ⟨g, 0, none⟩ [xs, ys, zs] := by
  intro i us hu
  match i, hu with
  | 0, hu => cases hu; exact ⟨A, c, by rw [ad_none]; exact h.cell 0 rfl, hx, h1⟩
  | 1, hu => cases hu; exact ⟨B, d, by rw [ad_none]; exact h.cell 1 rfl, hy, h2⟩
  | 2, hu => cases hu; exact ⟨C, f, by rw [ad_none]; exact h.cell 2 rfl, hz, h3⟩
  | i + 3, hu => simp at hu
set_option maxHeartbeats 2000000 in
set_option maxRecDepth 100000 in
theorem c_concat (ad : Addr) (cap : Nat) (xss : List (List UInt8)) (w : World) (hP : PartsAt w ad xss) (had : ad.block < w.heap.size) (hn : xss.length ≤ 1000) (h0 : 0 < xss.flatten.length) (hm : xss.flatten.length ≤ 1000000) :
    Calls Try.prog 81 #[.slice (some ad) xss.length cap] w fun e w' => ∃ v, e = .returned v ∧ OwnB w' w.heap.size 5 v xss.flatten ∧ Below w.heap.size w w' := by
  have hle : ∀ k, (xss.take k).flatten.length ≤ xss.flatten.length := by
    intro k
    conv => rhs; rw [← List.take_append_drop k xss, List.flatten_append, List.length_append]
    omega
  generalize hN : xss.length = N at *
  have HN := Lib.hid hN
  have HLE := Lib.hid hle
  clear hN hle
  generalize hF : xss.flatten.length = F at *
  have HF := Lib.hid hF
  clear hF
  go_enter Try.func81, Try.ntmps81
  go_wp2
  go_loop [3, 11] (fun s i => ∃ k : Nat, k ≤ N ∧ i = .int .i64 (k : Int) ∧ s = .int .i64 ((xss.take k).flatten.length : Nat)) (fun _ i => N - (intOf i).toNat)
  case atStart => exact ⟨0, by omega, rfl, rfl⟩
  case round =>
    obtain ⟨k, hk, rfl, rfl⟩ := hrel
    by_cases hlt : k < N
    · have hlt2 : (k : Int) < (N : Int) := by omega
      obtain ⟨xs, hxs⟩ : ∃ xs, xss[k]? = some xs := ⟨_, List.getElem?_eq_getElem (by rw [HN.out]; exact hlt)⟩
      obtain ⟨A, c, hcell, hR, hmx⟩ := hP k xs hxs
      have hfl := congrArg List.length (flat_snoc xss k xs hxs)
      rw [List.length_append] at hfl
      have hle := HLE.out (k + 1)
      generalize (xss.take k).flatten.length = p at *
      generalize hL : xs.length = L at *
      have HL := Lib.hid hL
      have HFL := Lib.hid hfl
      have hpl : p + L ≤ 1000000 := by omega
      clear hL hfl hle
      have hnn : ¬ ((p : Int) + (L : Int) < 0) := by omega
      go_wp2
      go_round
      case rel => exact ⟨k + 1, by omega, by go_num, by rw [HFL.out]; go_num⟩
      case measure => simp [intOf]; omega
    · obtain rfl : k = N := by omega
      rw [List.take_of_length_le (by rw [HN.out]; exact Nat.le_refl _), HF.out]
      go_wp2_with (go_at_call 85; (with_reducible refine (c_grow F w h0 hm).mono ?_); rintro e w1 ⟨v1, rfl, ho1, hb1⟩)
      have hP1 := hP.below hb1 (Nat.le_refl _) had
      go_loopw [6, 27] (fun s i wr => ∃ j : Nat, j ≤ k ∧ i = .int .i64 (j : Int) ∧ OwnB wr w.heap.size 5 s (xss.take j).flatten ∧ PartsAt wr ad xss ∧ Below w.heap.size w wr) (fun _ i _ => k - (intOf i).toNat)
      case atStart => exact ⟨0, by omega, rfl, ho1, hP1, hb1⟩
      case round =>
        clear ho1 hP1 hb1
        obtain ⟨j, hj, rfl, ho, hPr, hb⟩ := hrel
        by_cases hlj : j < k
        · have hlj2 : (j : Int) < (k : Int) := by omega
          obtain ⟨xs, hxs⟩ : ∃ xs, xss[j]? = some xs := ⟨_, List.getElem?_eq_getElem (by rw [HN.out]; exact hlj)⟩
          obtain ⟨A, c, hcell, hR, hmx⟩ := hPr j xs hxs
          have hfl := flat_snoc xss j xs hxs
          have hle := HLE.out j
          have HFL := Lib.hid hfl
          have hlm : (xss.take j).flatten.length + xs.length ≤ 140737488355328 := by omega
          clear hfl hle
          generalize (xss.take j).flatten = pre at *
          generalize hL : xs.length = L at *
          have HL := Lib.hid hL
          clear hL
          go_upto_region 14 with (at_builtin; refine wpl_cat (w0 := w) rfl _ _ 22 rfl w.heap.size 5 Try.underlying22 info_u8 ho rfl hR rfl hb hb.size hlm ?_; intro v2 w2 ho2 hb2 hg2 hv2)
          have hP2 : PartsAt w2 ad xss := by
            intro i ys hi
            obtain ⟨A', c', h1, h2, h3⟩ := hP i ys hi
            exact ⟨A', c', by rw [World.cell?_of_block (hb2.block _ (by rw [ad_block]; exact had))]; exact h1, h2.below hb2 (Nat.le_refl _), h3⟩
          go_wp2
          go_roundw
          case rel => exact ⟨j + 1, by omega, by go_num, by rw [HFL.out]; exact ho2, hP2, hb2⟩
          case measure => simp [intOf]; omega
        · obtain rfl : j = k := by omega
          rw [List.take_of_length_le (by rw [HN.out]; exact Nat.le_refl _)] at ho
          go_wp2
          go_ret
          exact ⟨_, rfl, ho, hb⟩
end Go.Proofs.Ytlbpmboknmbcgaa
