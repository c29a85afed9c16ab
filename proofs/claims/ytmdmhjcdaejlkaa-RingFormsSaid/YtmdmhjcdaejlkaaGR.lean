/- slices.Grow of nothing, slices.Concat. -/
import Derived.Test.YtmdmhjcdaejlkaaParts
import Derived.Deep.Cut
import Derived.Test.YtmdmhjcdaejlkaaEqB
import Derived.Test.YtmdmhjcdaejlkaaMkB
import Derived.Test.YtmdmhjcdaejlkaaCutS
import Derived.Test.YtmdmhjcdaejlkaaPenC
import Derived.Test.YtmdmhjcdaejlkaaPxA
import Derived.Test.YtmdmhjcdaejlkaaSuprD
set_option linter.unusedVariables false
set_option linter.unusedSimpArgs false
namespace Go.Proofs.Ytmdmhjcdaejlkaa
open Go.RowKit

theorem run_zerosNil (w : World) (base k : Nat) (ty : TypeId) (hk : 0 < k) (hm : k ≤ 1000000) (hb : base ≤ w.heap.size) :
    ∃ c w', (Builtin.append_ #[24, 3] ty #[.slice none 0 0, .int .i64 (k : Int)]).run Try.prog w = .ok (.slice (some ⟨w.heap.size, 0, none⟩) k c) w' ∧ OwnB w' base 5 (.slice (some ⟨w.heap.size, 0, none⟩) k c) (List.replicate k 0) ∧ Below w.heap.size w w' ∧ k ≤ c := by
  obtain ⟨i, hi, hz, hs, hby⟩ := info_parts8
  have hti : Try.prog.underlying 3 = some (.int .i64) := Try.underlying3
  have htb := Try.underlying24
  have hold : (Builtin.firstCells i.size 0 (.slice none 0 0)).run Try.prog w.drew = .ok ([] : List Value).toArray w.drew := by simp [Builtin.firstCells]
  have hrun := Go.Lib.run_append_grow_zeros (P := Try.prog) w 24 3 ty 5 i (.int .u8 0) .i64 .i64 htb hti hi hz none 0 0 [] hold k hk (by omega) (by omega) (by omega) (by rw [hby]; omega) (by
    have := nextslicecap_le (need := 0 + k) (old := 0) (by omega)
    rw [hby]; omega)
  rw [Nat.zero_add] at hrun
  refine ⟨_, _, hrun, ?_, (show Below w.heap.size w w.drew from below_drew (Below.refl _ _)).alloc (Nat.le_refl _) _, grownCap_ge w k 0 5⟩
  have hge := grownCap_ge w k 0 5
  have hcm2 := grownCap_le_maxLen w k 0 5 (by unfold maxLen; omega)
  unfold OwnB
  rw [List.length_replicate]
  refine ⟨by simp [bv_length], .inr ⟨w.heap.size, _, _, rfl, hb, heap_alloc_new w.drew _, hge, hcm2, ?_, ?_⟩⟩
  · simp [Builtin.zeroCells, Value.cells]; omega
  · simp only [Array.toList_append, List.toList_toArray, zc_list, Nat.mul_one, List.nil_append]
    rw [bv_rep, List.take_append_of_le_length (by simp), List.take_of_length_le (by simp)]
theorem wpl_appRun {ops : Array Oper} {rest : List Oper} {o : Oper} {a : Act} {Q : Exit → Act → World → Prop} {W w1 : World} {s x : Operand} {v y v1 : Value} {t u : TypeId} (hgd : o.guard = none)
    (ho : o.op = .call { callee := .builtin .append, args := #[s, x], argTypes := #[t, u] }) (hs : a.eval s = v) (hx : a.eval x = y) (hrun : (Builtin.append_ #[t, u] o.type #[v, y]).run Try.prog W = .ok v1 w1)
    (hK : wpList Try.prog ops Q rest (a.put o.dst v1) w1) : wpList Try.prog ops Q (o :: rest) a W :=
  Go.Lib.wpList_append_run W hgd s x _ _ ho _ _ hs hx v1 w1 hrun hK
theorem run_nil0 (W : World) : (Instr.slice 24 (.slice none 0 0) none (some (.int .i64 0)) none).run Try.prog W = .ok (.slice none 0 0) W := by
  have := run_slice_h (P := Try.prog) W 24 none 0 0 undB .i64 (0 : Int) (by omega) (by omega)
  rw [this, sizeB]
  simp [sliced]
theorem run_cut0 (W : World) (g k c : Nat) (hk : k ≤ c) : (Instr.slice 24 (.slice (some ⟨g, 0, none⟩) k c) none (some (.int .i64 0)) none).run Try.prog W = .ok (.slice (some ⟨g, 0, none⟩) 0 c) W := by
  have := run_slice_h (P := Try.prog) W 24 (some ⟨g, 0, none⟩) k c undB .i64 (0 : Int) (by omega) (by omega)
  rw [this, sizeB]
  simp [sliced]
  intro _
  rfl
theorem own_cut0 {w : World} {B g k c : Nat} {e : TypeId} {xs : List UInt8} (h : OwnB w B e (.slice (some ⟨g, 0, none⟩) k c) xs) : OwnB w B e (.slice (some ⟨g, 0, none⟩) 0 c) [] := by
  rcases h.2 with ⟨h, _⟩ | ⟨g', cap, cur, h, hb, hh, hn, hm, hs, _⟩
  · cases h
  · cases h
    exact ⟨by simp [bv_length], .inr ⟨_, _, cur, rfl, hb, hh, Nat.zero_le _, hm, hs, by simp [bv]⟩⟩
set_option maxHeartbeats 1000000 in
set_option maxRecDepth 100000 in
theorem c_grow (n : Nat) (w : World) (h0 : 0 < n) (hm : n ≤ 1000000) :
    Calls Try.prog 90 #[.slice none 0 0, .int .i64 (n : Int)] w fun e w' => ∃ v, e = .returned v ∧ OwnB w' w.heap.size 5 v [] ∧ Below w.heap.size w w' := by
  obtain ⟨c, w1, hrun, ho, hb, hkc⟩ := run_zerosNil w w.heap.size n 24 h0 hm (Nat.le_refl _)
  have e0 := run_nil0
  have hi : ¬ ((n : Int) < 0) := by omega
  have hp : (0 : Int) < (n : Int) := by omega
  have e1 := fun W => run_cut0 W w.heap.size n c hkc
  go_enter Try.func90, Try.ntmps90
  go_wp2_with (at_builtin; refine wpl_appRun rfl rfl rfl rfl hrun ?_)
  go_ret
  exact ⟨_, rfl, own_cut0 ho, hb⟩
theorem PartsAt.below {W W' : World} {ad : Addr} {xss : List (List UInt8)} {B : Nat} (h : PartsAt W ad xss) (hb : Below B W W') (hB : W.heap.size ≤ B) (had : ad.block < W.heap.size) : PartsAt W' ad xss := by
  intro i xs hi
  obtain ⟨A, c, h1, h2, h3⟩ := h i xs hi
  exact ⟨A, c, by rw [World.cell?_of_block (hb.block _ (by rw [ad_block]; omega))]; exact h1, h2.below hb hB, h3⟩
theorem parts3 {W : World} {g : Nat} {T : TypeId} {A B C : Option Addr} {c d f : Nat} {xs ys zs : List UInt8} (h : Row W g #[.slice A xs.length c, .slice B ys.length d, .slice C zs.length f] T) (hx : RdB W A xs.length xs) (hy : RdB W B ys.length ys) (hz : RdB W C zs.length zs) (h1 : xs.length ≤ 1000000) (h2 : ys.length ≤ 1000000) (h3 : zs.length ≤ 1000000) :
    PartsAt W ⟨g, 0, none⟩ [xs, ys, zs] := by
  intro i us hu
  match i, hu with
  | 0, hu => cases hu; exact ⟨A, c, by rw [ad_none]; exact h.cell 0 rfl, hx, h1⟩
  | 1, hu => cases hu; exact ⟨B, d, by rw [ad_none]; exact h.cell 1 rfl, hy, h2⟩
  | 2, hu => cases hu; exact ⟨C, f, by rw [ad_none]; exact h.cell 2 rfl, hz, h3⟩
  | i + 3, hu => simp at hu
set_option maxHeartbeats 2000000 in
set_option maxRecDepth 100000 in
theorem c_concat (ad : Addr) (cap : Nat) (xss : List (List UInt8)) (w : World) (hP : PartsAt w ad xss) (had : ad.block < w.heap.size) (hn : xss.length ≤ 1000) (h0 : 0 < xss.flatten.length) (hm : xss.flatten.length ≤ 1000000) :
    Calls Try.prog 73 #[.slice (some ad) xss.length cap] w fun e w' => ∃ v, e = .returned v ∧ OwnB w' w.heap.size 5 v xss.flatten ∧ Below w.heap.size w w' := by
  have hle : ∀ k, (xss.take k).flatten.length ≤ xss.flatten.length := by
    intro k
    conv => rhs; rw [← List.take_append_drop k xss, List.flatten_append, List.length_append]
    omega
  generalize hN : xss.length = N at *
  have HN := Lib.hid hN
  have HLE := Lib.hid hle
  clear hN hle
  generalize hF : xss.flatten.length = F at *
  have HF := Lib.hid hF
  clear hF
  go_enter Try.func73, Try.ntmps73
  go_wp2
  go_loop [3, 11] (fun s i => ∃ k : Nat, k ≤ N ∧ i = .int .i64 (k : Int) ∧ s = .int .i64 ((xss.take k).flatten.length : Nat)) (fun _ i => N - (intOf i).toNat)
  case atStart => exact ⟨0, by omega, rfl, rfl⟩
  case round =>
    obtain ⟨k, hk, rfl, rfl⟩ := hrel
    by_cases hlt : k < N
    · have hlt2 : (k : Int) < (N : Int) := by omega
      obtain ⟨xs, hxs⟩ : ∃ xs, xss[k]? = some xs := ⟨_, List.getElem?_eq_getElem (by rw [HN.out]; exact hlt)⟩
      obtain ⟨A, c, hcell, hR, hmx⟩ := hP k xs hxs
      have hfl := congrArg List.length (flat_snoc xss k xs hxs)
      rw [List.length_append] at hfl
      have hle := HLE.out (k + 1)
      generalize (xss.take k).flatten.length = p at *
      generalize hL : xs.length = L at *
      have HL := Lib.hid hL
      have HFL := Lib.hid hfl
      have hpl : p + L ≤ 1000000 := by omega
      clear hL hfl hle
      have hnn : ¬ ((p : Int) + (L : Int) < 0) := by omega
      go_wp2
      go_round
      case rel => exact ⟨k + 1, by omega, by go_num, by rw [HFL.out]; go_num⟩
      case measure => simp [intOf]; omega
    · obtain rfl : k = N := by omega
      rw [List.take_of_length_le (by rw [HN.out]; exact Nat.le_refl _), HF.out]
      go_wp2_with (go_at_call 90; (with_reducible refine (c_grow F w h0 hm).mono ?_); rintro e w1 ⟨v1, rfl, ho1, hb1⟩)
      have hP1 := hP.below hb1 (Nat.le_refl _) had
      go_loopw [6, 27] (fun s i wr => ∃ j : Nat, j ≤ k ∧ i = .int .i64 (j : Int) ∧ OwnB wr w.heap.size 5 s (xss.take j).flatten ∧ PartsAt wr ad xss ∧ Below w.heap.size w wr) (fun _ i _ => k - (intOf i).toNat)
      case atStart => exact ⟨0, by omega, rfl, ho1, hP1, hb1⟩
      case round =>
        clear ho1 hP1 hb1
        obtain ⟨j, hj, rfl, ho, hPr, hb⟩ := hrel
        by_cases hlj : j < k
        · have hlj2 : (j : Int) < (k : Int) := by omega
          obtain ⟨xs, hxs⟩ : ∃ xs, xss[j]? = some xs := ⟨_, List.getElem?_eq_getElem (by rw [HN.out]; exact hlj)⟩
          obtain ⟨A, c, hcell, hR, hmx⟩ := hPr j xs hxs
          have hfl := flat_snoc xss j xs hxs
          have hle := HLE.out j
          have HFL := Lib.hid hfl
          have hlm : (xss.take j).flatten.length + xs.length ≤ 140737488355328 := by omega
          clear hfl hle
          generalize (xss.take j).flatten = pre at *
          generalize hL : xs.length = L at *
          have HL := Lib.hid hL
          clear hL
          go_upto_region 14 with (at_builtin; refine wpl_cat (w0 := w) rfl _ _ 24 rfl w.heap.size 5 Try.underlying24 info_u8 ho rfl hR rfl hb hb.size hlm ?_; intro v2 w2 ho2 hb2 hg2 hv2)
          have hP2 : PartsAt w2 ad xss := by
            intro i ys hi
            obtain ⟨A', c', h1, h2, h3⟩ := hP i ys hi
            exact ⟨A', c', by rw [World.cell?_of_block (hb2.block _ (by rw [ad_block]; exact had))]; exact h1, h2.below hb2 (Nat.le_refl _), h3⟩
          go_wp2
          go_roundw
          case rel => exact ⟨j + 1, by omega, by go_num, by rw [HFL.out]; exact ho2, hP2, hb2⟩
          case measure => simp [intOf]; omega
        · obtain rfl : j = k := by omega
          rw [List.take_of_length_le (by rw [HN.out]; exact Nat.le_refl _)] at ho
          go_wp2
          go_ret
          exact ⟨_, rfl, ho, hb⟩
end Go.Proofs.Ytmdmhjcdaejlkaa

/- bytes.HasPrefix, bytes.CutPrefix. -/
set_option linter.unusedVariables false
set_option linter.unusedSimpArgs false
namespace Go.Proofs.Ytmdmhjcdaejlkaa
open Go.RowKit

/-- bytes.HasPrefix -/
theorem c_hasPrefix (W : World) (A B : Option Addr) (n m c d : Nat) (xs ys : List UInt8) (hx : RdB W A n xs) (hy : RdB W B m ys) (hc : n ≤ c) (hm : n ≤ maxLen) (r : Bool) (hr : (decide (m ≤ n) && (xs.take m == ys)) = r) :
    Calls Try.prog 91 #[.slice A n c, .slice B m d] W fun e w' => e = .returned (.bool r) ∧ W = w' := by
  unfold maxLen at hm
  by_cases hle : m ≤ n
  · have hle2 : (m : Int) ≤ (n : Int) := by omega
    obtain ⟨A', e1, r1⟩ := cut_to hx hc (m : Int) m rfl hle
    have HE := Lib.hid (c_bytesEq W A' B m m c d (xs.take m) ys r1 hy r (by rw [← hr]; simp [hle]))
    clear hr
    go_enter Try.func91, Try.ntmps91
    go_wp2_with (go_at_call 72; (with_reducible refine HE.out.mono ?_); rintro e w' ⟨rfl, rfl⟩)
    go_ret
    exact ⟨rfl, rfl⟩
  · have hle2 : ¬ (m : Int) ≤ (n : Int) := by omega
    obtain rfl : false = r := by rw [← hr]; simp [hle]
    clear hr
    go_enter Try.func91, Try.ntmps91
    go_wp2_with fail
    go_ret
    exact ⟨rfl, rfl⟩
theorem c_cutYes (W : World) (A B : Option Addr) (n m c d : Nat) (xs ys : List UInt8) (hx : RdB W A n xs) (hy : RdB W B m ys) (hc : n ≤ c) (hm : n ≤ maxLen) (hle : m ≤ n) (he : xs.take m = ys) :
    Calls Try.prog 75 #[.slice A n c, .slice B m d] W fun e w' => (∃ A', e = .returned (.tuple #[.slice A' (n - m) (c - m), .bool true]) ∧ RdB W A' (n - m) (xs.drop m)) ∧ W = w' := by
  have HH := Lib.hid (c_hasPrefix W A B n m c d xs ys hx hy hc hm true (by simp [hle, he]))
  unfold maxLen at hm
  have hle2 : (m : Int) ≤ (n : Int) := by omega
  obtain ⟨A', e1, r1⟩ := cut_from hx hc (m : Int) m rfl hle
  clear he
  go_enter Try.func75, Try.ntmps75
  go_wp2_with (go_at_call 91; (with_reducible refine HH.out.mono ?_); rintro e w' ⟨rfl, rfl⟩)
  go_ret2
  exact ⟨⟨_, rfl, r1⟩, rfl⟩
theorem c_cutNo (W : World) (A B : Option Addr) (n m c d : Nat) (xs ys : List UInt8) (hx : RdB W A n xs) (hy : RdB W B m ys) (hc : n ≤ c) (hm : n ≤ maxLen) (h : (decide (m ≤ n) && (xs.take m == ys)) = false) :
    Calls Try.prog 75 #[.slice A n c, .slice B m d] W fun e w' => e = .returned (.tuple #[.slice A n c, .bool false]) ∧ W = w' := by
  have HH := Lib.hid (c_hasPrefix W A B n m c d xs ys hx hy hc hm false h)
  clear h
  unfold maxLen at hm
  go_enter Try.func75, Try.ntmps75
  go_wp2_with (go_at_call 91; (with_reducible refine HH.out.mono ?_); rintro e w' ⟨rfl, rfl⟩)
  go_ret2
  exact ⟨rfl, rfl⟩
end Go.Proofs.Ytmdmhjcdaejlkaa

/- The log: its struct, its small methods. -/
set_option linter.unusedVariables false
set_option linter.unusedSimpArgs false
namespace Go.Proofs.Ytmdmhjcdaejlkaa
open Go.RowKit

/-- what stands ahead of a record -/
def rhL (e i : Nat) : List UInt8 := leP e 8 ++ leP i 4
theorem rhL_length (e i : Nat) : (rhL e i).length = 12 := by simp [rhL, leP_length]
set_option maxHeartbeats 1000000 in
set_option maxRecDepth 100000 in
theorem c_rhead (e i : Nat) (hi : i ≤ 1000000) (w : World) :
    Calls Try.prog 74 #[.int .u64 (e : Int), .int .i64 (i : Int)] w fun r w' => ∃ v, r = .returned v ∧ OwnB w' w.heap.size 5 v (rhL e i) ∧ Below w.heap.size w w' := by
  have hwi : IntKind.u64.wrap (i : Int) = (i : Int) := IntWalk.u64_in _ ⟨by omega, by omega⟩
  have H1 := Lib.hid (fun W => c_lePut8 e W)
  have H2 := Lib.hid (fun W => c_lePut4 i W)
  go_enter Try.func74, Try.ntmps74
  go_wp2_with fail
  refine (H1.out _).mono ?_
  rintro r w1 ⟨A1, c1, rfl, lc1, ho1, hr1, hb1⟩
  go_wp2_with fail
  refine (H2.out _).mono ?_
  rintro r w2 ⟨A2, c2, rfl, lc2, ho2, hr2, hb2⟩
  have hr12 := hr1.below hb2 (Nat.le_refl _)
  have q1 : RdB (w2.alloc (.cells #[.slice A1 8 c1, .slice A2 4 c2] 24)) A1 8 (leP e 8) := Rd.below hr12 (below_alloc (Below.refl _ _) _) (Nat.le_refl _)
  have q2 : RdB (w2.alloc (.cells #[.slice A1 8 c1, .slice A2 4 c2] 24)) A2 4 (leP i 4) := Rd.below hr2 (below_alloc (Below.refl _ _) _) (Nat.le_refl _)
  have hrow := Row.new w2 #[.slice A1 8 c1, .slice A2 4 c2] 24
  have hP : PartsAt (w2.alloc (.cells #[.slice A1 8 c1, .slice A2 4 c2] 24)) ⟨w2.heap.size, 0, none⟩ [leP e 8, leP i 4]   := parts2 (A := A1) (B := A2) (c := c1) (d := c2) (by rw [leP_length, leP_length]; exact hrow) (by rw [leP_length]; exact q1) (by rw [leP_length]; exact q2) (by rw [leP_length]; decide) (by rw [leP_length]; decide)
  have hfl : [leP e 8, leP i 4].flatten = rhL e i := by simp [rhL]
  have hcc := c_concat ⟨w2.heap.size, 0, none⟩ 2 [leP e 8, leP i 4] _ hP (by simp) (by simp) (by rw [hfl, rhL_length]; decide) (by rw [hfl, rhL_length]; decide)
  rw [hfl] at hcc
  have hb3 := below_alloc (below_two hb1 hb2) (.cells #[.slice A1 8 c1, .slice A2 4 c2] 24)
  have HCC := Lib.hid hcc
  clear hcc hP hrow q1 q2 hr12 hr1 hr2 ho1 ho2 hb1 hb2 H1 H2 hfl
  go_wp2_with fail
  refine HCC.out.mono ?_
  rintro r w4 ⟨v4, rfl, ho4, hb4⟩
  go_wp2
  go_ret
  exact ⟨_, rfl, ho4.mono hb3.size, below_two hb3 hb4⟩
/-- a log's struct at block r -/
def ringC (g at_ size epoch n : Nat) : Array Value := #[.pointer (some ⟨g, 0, none⟩), .int .i64 (at_ : Int), .int .i64 (size : Int), .int .u64 (epoch : Int), .int .i64 (n : Int)]
structure RingAt (W : World) (r g at_ size epoch n : Nat) : Prop where
  row : Row W r (ringC g at_ size epoch n) 108
variable {W : World} {r g b base nn at_ size epoch n boot seq : Nat} {key : List UInt8} {D : Dk}
theorem RingAt.below {W' : World} {B : Nat} (h : RingAt W r g at_ size epoch n) (hb : Below B W W') (hr : r < B) : RingAt W' r g at_ size epoch n := ⟨h.row.below hb hr⟩
theorem RingAt.dr {W' : World} (h : RingAt W r g at_ size epoch n) (hd : DR dTy base W W') : RingAt W' r g at_ size epoch n := ⟨h.row.dr hd (by decide)⟩
theorem RingAt.px {W' : World} {X : List Nat} (h : RingAt W r g at_ size epoch n) (hp : PX X base W W') (hX : r ∉ X) : RingAt W' r g at_ size epoch n := ⟨hp.2 _ _ _ h.row (by decide) hX⟩
theorem RingAt.pr {W' : World} {g2 : Nat} (h : RingAt W r g at_ size epoch n) (hp : PR g2 base W W') (hX : r ≠ g2) : RingAt W' r g at_ size epoch n := ⟨hp.2 _ _ _ h.row (by decide) hX⟩
theorem RingAt.lt (h : RingAt W r g at_ size epoch n) : r < W.heap.size := h.row.lt
theorem PenAt.px {W' : World} {X : List Nat} (h : PenAt W g b key boot seq) (hp : PX X base W W') (hX : g ∉ X) : PenAt W' g b key boot seq := ⟨hp.2 _ _ _ h.row (by decide) hX, h.kl, h.bl⟩
theorem c_rNew (g at_ size : Nat) (x y : Int) (hx : x = (at_ : Int)) (hy : y = (size : Int)) (W : World) :
    Calls Try.prog 35 #[.pointer (some ⟨g, 0, none⟩), .int .i64 x, .int .i64 y] W fun e w' => ∃ r, e = .returned (.pointer (some ⟨r, 0, none⟩)) ∧ RingAt w' r g at_ size 0 0 ∧ W.heap.size ≤ r ∧ Below W.heap.size W w' := by
  subst hx hy
  go_enter Try.func35, Try.ntmps35
  go_wp2_with fail
  go_ret
  exact ⟨_, rfl, ⟨Row.new W (ringC g at_ size 0 0) 108⟩, Nat.le_refl _, below_alloc (Below.refl _ _) _⟩
theorem c_rLen (h : RingAt W r g at_ size epoch n) : Calls Try.prog 41 #[.pointer (some ⟨r, 0, none⟩)] W fun e w' => e = .returned (.int .i64 (n : Int)) ∧ W = w' := by
  have c4 := h.row.cell 4 rfl
  clear h
  go_enter Try.func41, Try.ntmps41
  go_wp2
  go_ret
  exact ⟨rfl, rfl⟩
set_option maxHeartbeats 1000000 in
theorem c_rStart (h : RingAt W r g at_ size epoch n) (hI : In W base b D nn) (hP : PenAt W g b key boot seq) (hr : base ≤ r) (hrg : g ≠ r) (e : Nat) :
    Calls Try.prog 37 #[.pointer (some ⟨r, 0, none⟩), .int .u64 (e : Int)] W fun x w' => x = .returned (.tuple #[]) ∧ RingAt w' r g at_ size e 0 ∧ In w' base b D nn ∧ PenAt w' g b key boot seq ∧ PX [r] base W w' := by
  have c3 := h.row.cell 3 rfl
  have z3 := h.row.free 3
  have h3 := h.row.set 3 (.int .u64 (e : Int))
  have c4 := h3.cell 4 rfl
  have z4 := h3.free 4
  have h4 := h3.set 4 (.int .i64 0)
  have hI3 := hI.set (j := 3) h.row (.int .u64 (e : Int)) (by decide) hr
  have hI4 := hI3.set (j := 4) h3 (.int .i64 0) (by decide) hr
  have hP4 := (hP.set (j := 3) (.int .u64 (e : Int)) hrg).set (j := 4) (.int .i64 0) hrg
  have hpx : PX [r] base W ((W.setCell ⟨r, 3, none⟩ (.int .u64 (e : Int))).setCell ⟨r, 4, none⟩ (.int .i64 0)) := (PX.set hr (by simp)).trans (PX.set hr (by simp))
  have hrow : RingAt ((W.setCell ⟨r, 3, none⟩ (.int .u64 (e : Int))).setCell ⟨r, 4, none⟩ (.int .i64 0)) r g at_ size e 0 := ⟨h4⟩
  have H := Lib.hid (And.intro hrow (And.intro hI4 (And.intro hP4 hpx)))
  clear h3 h4 hI3 hI4 hP4 hpx hrow h hI hP
  go_enter Try.func37, Try.ntmps37
  go_wp2
  exact ⟨rfl, _, by simp [results, Try.results37], rfl, H.out⟩
end Go.Proofs.Ytmdmhjcdaejlkaa

/- The log: Add. -/
set_option linter.unusedVariables false
set_option linter.unusedSimpArgs false
namespace Go.Proofs.Ytmdmhjcdaejlkaa
open Go.RowKit

/-- slices.Concat of two -/
theorem c_cat2 (w : World) (A B : Option Addr) (n m c d : Nat) (xs ys : List UInt8) (hx : RdB w A n xs) (hy : RdB w B m ys) (h0 : 0 < n) (h1 : n ≤ 1000) (h2 : m ≤ 900000) :
    Calls Try.prog 73 #[.slice (some ⟨w.heap.size, 0, none⟩) 2 2] (w.alloc (.cells #[.slice A n c, .slice B m d] 24)) fun e w' => ∃ v, e = .returned v ∧ OwnB w' w.heap.size 5 v (xs ++ ys) ∧ Below w.heap.size w w' ∧ KpP (w.alloc (.cells #[.slice A n c, .slice B m d] 24)) w' := by
  have lx := hx.len
  have ly := hy.len
  have hb := below_alloc (Below.refl w.heap.size w) (.cells #[.slice A n c, .slice B m d] 24)
  have hrow := Row.new w #[.slice A n c, .slice B m d] 24
  have hP : PartsAt (w.alloc (.cells #[.slice A n c, .slice B m d] 24)) ⟨w.heap.size, 0, none⟩ [xs, ys] := parts2 (A := A) (B := B) (c := c) (d := d) (by rw [lx, ly]; exact hrow) (by rw [lx]; exact Rd.below hx hb (Nat.le_refl _)) (by rw [ly]; exact Rd.below hy hb (Nat.le_refl _)) (by omega) (by omega)
  have hfl : [xs, ys].flatten = xs ++ ys := by simp
  have hcc := c_concat ⟨w.heap.size, 0, none⟩ 2 [xs, ys] _ hP (by simp) (by simp) (by rw [hfl, List.length_append]; omega) (by rw [hfl, List.length_append]; omega)
  rw [hfl] at hcc
  refine hcc.mono ?_
  rintro e w' ⟨v, rfl, h3, h4⟩
  exact ⟨v, rfl, h3.mono hb.size, hb.trans (h4.mono hb.size), h4⟩
/-- the write of a record -/
def addWr (D : Dk) (key : List UInt8) (boot seq at_ n epoch : Nat) (rec : List UInt8) : Dk := D.write ((at_ + n : Nat) : Int) (sealL key boot seq (rhL epoch n ++ rec) D.size.toNat)
variable {W : World} {r g b base nn at_ size epoch n boot seq : Nat} {key : List UInt8} {D : Dk}
set_option maxHeartbeats 1000000 in
set_option maxRecDepth 100000 in
/-- a full log takes no more -/
theorem c_addFull (h : RingAt W r g at_ size epoch n) (hfull : size ≤ n) (A : Option Addr) (m c : Nat) :
    Calls Try.prog 38 #[.pointer (some ⟨r, 0, none⟩), .slice A m c] W fun e w' => e = .returned (.bool false) ∧ Below W.heap.size W w' := by
  have hd : RingAt W.drew r g at_ size epoch n := ⟨h.row⟩
  have c2 : W.drew.cell? ⟨r, 2, none⟩ = some (.int .i64 (size : Int)) := hd.row.cell 2 rfl
  have c4 : W.drew.cell? ⟨r, 4, none⟩ = some (.int .i64 (n : Int)) := hd.row.cell 4 rfl
  have hge : (n : Int) ≥ (size : Int) := by omega
  have hgd : decide ((n : Int) ≥ (size : Int)) = true := decide_eq_true hge
  clear h hd hge
  go_enter Try.func38, Try.ntmps38
  go_upto_region 1 with fail
  (refine wp_region_linN (KpP) (KpP) (wayKpP) (wayKpP) (fun _ _ h => h) (.free 0 (.free 1 (.free 2 (.hot 3 (.free 4 (.free 5 (.free 6 (.hot 7 (.free 8 (.free 9 (.free 10 (.free 11 (.free 12 (.hot 13 (.free 14 (.free 15 (.free 16 (.hot 17 (.free 18 (.free 19 (.free 20 (.hot 21 (.free 22 (.free 23 (.free 24 (.free 25 (.hot 26 (.free 27 (.free 28 (.free 29 (.hot 30 (.free 32 (.op 31 [(9, 31), (8, 9), (3, 8), (7, 8), (26, 31), (30, 31)] [13, 17, 21] [] (.op 33 [] [13, 17, 21] [] (.op 34 [] [13, 17, 21] [] (.op 35 [(13, 35), (22, 35), (17, 22), (21, 22)] [] [] (.free 36 (.free 37 .nil)))))))))))))))))))))))))))))))))))))) rfl (by kernel_rfl) (by kernel_rfl) (fun _ _ _ _ _ h => h) ?_; (first | (apply linN_free; (simp only [List.getElem?_toArray, List.getElem?_cons_succ, List.getElem?_cons_zero]; rfl); (rfl); (intro w'; (first | (go_simp; done) | (go_simp; with_reducible rfl) | (go_simp; go_bits; with_reducible rfl) | (go_simp; go_bits; done))); try simp only [Act.put, List.setIfInBounds_toArray, List.set_cons_zero, List.set_cons_succ]) | (apply linN_freeSkip; (simp only [List.getElem?_toArray, List.getElem?_cons_succ, List.getElem?_cons_zero]; rfl); (rfl); try simp only [Act.put, List.setIfInBounds_toArray, List.set_cons_zero, List.set_cons_succ])); (first | (apply linN_free; (simp only [List.getElem?_toArray, List.getElem?_cons_succ, List.getElem?_cons_zero]; rfl); (rfl); (intro w'; (first | (go_simp; done) | (go_simp; with_reducible rfl) | (go_simp; go_bits; with_reducible rfl) | (go_simp; go_bits; done))); try simp only [Act.put, List.setIfInBounds_toArray, List.set_cons_zero, List.set_cons_succ]) | (apply linN_freeSkip; (simp only [List.getElem?_toArray, List.getElem?_cons_succ, List.getElem?_cons_zero]; rfl); (rfl); try simp only [Act.put, List.setIfInBounds_toArray, List.set_cons_zero, List.set_cons_succ])); (first | (apply linN_free; (simp only [List.getElem?_toArray, List.getElem?_cons_succ, List.getElem?_cons_zero]; rfl); (rfl); (intro w'; (first | (go_simp; done) | (go_simp; with_reducible rfl) | (go_simp; go_bits; with_reducible rfl) | (go_simp; go_bits; done))); try simp only [Act.put, List.setIfInBounds_toArray, List.set_cons_zero, List.set_cons_succ]) | (apply linN_freeSkip; (simp only [List.getElem?_toArray, List.getElem?_cons_succ, List.getElem?_cons_zero]; rfl); (rfl); try simp only [Act.put, List.setIfInBounds_toArray, List.set_cons_zero, List.set_cons_succ])); (first | (apply linN_hot; (simp only [List.getElem?_toArray, List.getElem?_cons_succ, List.getElem?_cons_zero]; rfl); (rfl); (intro w' hb'; (try have k_c2 := kpP_cell hb' c2); (try have k_c4 := kpP_cell hb' c4); (first | (go_simp; done) | (go_simp; with_reducible rfl) | (go_simp; go_bits; with_reducible rfl) | (go_simp; go_bits; done))); try simp only [Act.put, List.setIfInBounds_toArray, List.set_cons_zero, List.set_cons_succ]) | (apply linN_hotSkip; (simp only [List.getElem?_toArray, List.getElem?_cons_succ, List.getElem?_cons_zero]; rfl); (rfl); try simp only [Act.put, List.setIfInBounds_toArray, List.set_cons_zero, List.set_cons_succ])); (first | (apply linN_free; (simp only [List.getElem?_toArray, List.getElem?_cons_succ, List.getElem?_cons_zero]; rfl); (rfl); (intro w'; (first | (go_simp; done) | (go_simp; with_reducible rfl) | (go_simp; go_bits; with_reducible rfl) | (go_simp; go_bits; done))); try simp only [Act.put, List.setIfInBounds_toArray, List.set_cons_zero, List.set_cons_succ]) | (apply linN_freeSkip; (simp only [List.getElem?_toArray, List.getElem?_cons_succ, List.getElem?_cons_zero]; rfl); (rfl); try simp only [Act.put, List.setIfInBounds_toArray, List.set_cons_zero, List.set_cons_succ])); (first | (apply linN_free; (simp only [List.getElem?_toArray, List.getElem?_cons_succ, List.getElem?_cons_zero]; rfl); (rfl); (intro w'; (first | (go_simp; done) | (go_simp; with_reducible rfl) | (go_simp; go_bits; with_reducible rfl) | (go_simp; go_bits; done))); try simp only [Act.put, List.setIfInBounds_toArray, List.set_cons_zero, List.set_cons_succ]) | (apply linN_freeSkip; (simp only [List.getElem?_toArray, List.getElem?_cons_succ, List.getElem?_cons_zero]; rfl); (rfl); try simp only [Act.put, List.setIfInBounds_toArray, List.set_cons_zero, List.set_cons_succ])); (first | (apply linN_free; (simp only [List.getElem?_toArray, List.getElem?_cons_succ, List.getElem?_cons_zero]; rfl); (rfl); (intro w'; (first | (go_simp; done) | (go_simp; with_reducible rfl) | (go_simp; go_bits; with_reducible rfl) | (go_simp; go_bits; done))); try simp only [Act.put, List.setIfInBounds_toArray, List.set_cons_zero, List.set_cons_succ]) | (apply linN_freeSkip; (simp only [List.getElem?_toArray, List.getElem?_cons_succ, List.getElem?_cons_zero]; rfl); (rfl); try simp only [Act.put, List.setIfInBounds_toArray, List.set_cons_zero, List.set_cons_succ])); (first | (apply linN_hot; (simp only [List.getElem?_toArray, List.getElem?_cons_succ, List.getElem?_cons_zero]; rfl); (rfl); (intro w' hb'; (try have k_c2 := kpP_cell hb' c2); (try have k_c4 := kpP_cell hb' c4); (first | (go_simp; done) | (go_simp; with_reducible rfl) | (go_simp; go_bits; with_reducible rfl) | (go_simp; go_bits; done))); try simp only [Act.put, List.setIfInBounds_toArray, List.set_cons_zero, List.set_cons_succ]) | (apply linN_hotSkip; (simp only [List.getElem?_toArray, List.getElem?_cons_succ, List.getElem?_cons_zero]; rfl); (rfl); try simp only [Act.put, List.setIfInBounds_toArray, List.set_cons_zero, List.set_cons_succ])); (first | (apply linN_free; (simp only [List.getElem?_toArray, List.getElem?_cons_succ, List.getElem?_cons_zero]; rfl); (rfl); (intro w'; (first | (go_simp; done) | (go_simp; with_reducible rfl) | (go_simp; go_bits; with_reducible rfl) | (go_simp; go_bits; done))); try simp only [Act.put, List.setIfInBounds_toArray, List.set_cons_zero, List.set_cons_succ]) | (apply linN_freeSkip; (simp only [List.getElem?_toArray, List.getElem?_cons_succ, List.getElem?_cons_zero]; rfl); (rfl); try simp only [Act.put, List.setIfInBounds_toArray, List.set_cons_zero, List.set_cons_succ])); (first | (apply linN_free; (simp only [List.getElem?_toArray, List.getElem?_cons_succ, List.getElem?_cons_zero]; rfl); (rfl); (intro w'; (first | (go_simp; done) | (go_simp; with_reducible rfl) | (go_simp; go_bits; with_reducible rfl) | (go_simp; go_bits; done))); try simp only [Act.put, List.setIfInBounds_toArray, List.set_cons_zero, List.set_cons_succ]) | (apply linN_freeSkip; (simp only [List.getElem?_toArray, List.getElem?_cons_succ, List.getElem?_cons_zero]; rfl); (rfl); try simp only [Act.put, List.setIfInBounds_toArray, List.set_cons_zero, List.set_cons_succ])); (first | (apply linN_free; (simp only [List.getElem?_toArray, List.getElem?_cons_succ, List.getElem?_cons_zero]; rfl); (rfl); (intro w'; (first | (go_simp; done) | (go_simp; with_reducible rfl) | (go_simp; go_bits; with_reducible rfl) | (go_simp; go_bits; done))); try simp only [Act.put, List.setIfInBounds_toArray, List.set_cons_zero, List.set_cons_succ]) | (apply linN_freeSkip; (simp only [List.getElem?_toArray, List.getElem?_cons_succ, List.getElem?_cons_zero]; rfl); (rfl); try simp only [Act.put, List.setIfInBounds_toArray, List.set_cons_zero, List.set_cons_succ])); (first | (apply linN_free; (simp only [List.getElem?_toArray, List.getElem?_cons_succ, List.getElem?_cons_zero]; rfl); (rfl); (intro w'; (first | (go_simp; done) | (go_simp; with_reducible rfl) | (go_simp; go_bits; with_reducible rfl) | (go_simp; go_bits; done))); try simp only [Act.put, List.setIfInBounds_toArray, List.set_cons_zero, List.set_cons_succ]) | (apply linN_freeSkip; (simp only [List.getElem?_toArray, List.getElem?_cons_succ, List.getElem?_cons_zero]; rfl); (rfl); try simp only [Act.put, List.setIfInBounds_toArray, List.set_cons_zero, List.set_cons_succ])); (first | (apply linN_free; (simp only [List.getElem?_toArray, List.getElem?_cons_succ, List.getElem?_cons_zero]; rfl); (rfl); (intro w'; (first | (go_simp; done) | (go_simp; with_reducible rfl) | (go_simp; go_bits; with_reducible rfl) | (go_simp; go_bits; done))); try simp only [Act.put, List.setIfInBounds_toArray, List.set_cons_zero, List.set_cons_succ]) | (apply linN_freeSkip; (simp only [List.getElem?_toArray, List.getElem?_cons_succ, List.getElem?_cons_zero]; rfl); (rfl); try simp only [Act.put, List.setIfInBounds_toArray, List.set_cons_zero, List.set_cons_succ])); (first | (apply linN_hot; (simp only [List.getElem?_toArray, List.getElem?_cons_succ, List.getElem?_cons_zero]; rfl); (rfl); (intro w' hb'; (try have k_c2 := kpP_cell hb' c2); (try have k_c4 := kpP_cell hb' c4); (first | (go_simp; done) | (go_simp; with_reducible rfl) | (go_simp; go_bits; with_reducible rfl) | (go_simp; go_bits; done))); try simp only [Act.put, List.setIfInBounds_toArray, List.set_cons_zero, List.set_cons_succ]) | (apply linN_hotSkip; (simp only [List.getElem?_toArray, List.getElem?_cons_succ, List.getElem?_cons_zero]; rfl); (rfl); try simp only [Act.put, List.setIfInBounds_toArray, List.set_cons_zero, List.set_cons_succ])); (first | (apply linN_free; (simp only [List.getElem?_toArray, List.getElem?_cons_succ, List.getElem?_cons_zero]; rfl); (rfl); (intro w'; (first | (go_simp; done) | (go_simp; with_reducible rfl) | (go_simp; go_bits; with_reducible rfl) | (go_simp; go_bits; done))); try simp only [Act.put, List.setIfInBounds_toArray, List.set_cons_zero, List.set_cons_succ]) | (apply linN_freeSkip; (simp only [List.getElem?_toArray, List.getElem?_cons_succ, List.getElem?_cons_zero]; rfl); (rfl); try simp only [Act.put, List.setIfInBounds_toArray, List.set_cons_zero, List.set_cons_succ])); (first | (apply linN_free; (simp only [List.getElem?_toArray, List.getElem?_cons_succ, List.getElem?_cons_zero]; rfl); (rfl); (intro w'; (first | (go_simp; done) | (go_simp; with_reducible rfl) | (go_simp; go_bits; with_reducible rfl) | (go_simp; go_bits; done))); try simp only [Act.put, List.setIfInBounds_toArray, List.set_cons_zero, List.set_cons_succ]) | (apply linN_freeSkip; (simp only [List.getElem?_toArray, List.getElem?_cons_succ, List.getElem?_cons_zero]; rfl); (rfl); try simp only [Act.put, List.setIfInBounds_toArray, List.set_cons_zero, List.set_cons_succ])); (first | (apply linN_free; (simp only [List.getElem?_toArray, List.getElem?_cons_succ, List.getElem?_cons_zero]; rfl); (rfl); (intro w'; (first | (go_simp; done) | (go_simp; with_reducible rfl) | (go_simp; go_bits; with_reducible rfl) | (go_simp; go_bits; done))); try simp only [Act.put, List.setIfInBounds_toArray, List.set_cons_zero, List.set_cons_succ]) | (apply linN_freeSkip; (simp only [List.getElem?_toArray, List.getElem?_cons_succ, List.getElem?_cons_zero]; rfl); (rfl); try simp only [Act.put, List.setIfInBounds_toArray, List.set_cons_zero, List.set_cons_succ])); (first | (apply linN_hot; (simp only [List.getElem?_toArray, List.getElem?_cons_succ, List.getElem?_cons_zero]; rfl); (rfl); (intro w' hb'; (try have k_c2 := kpP_cell hb' c2); (try have k_c4 := kpP_cell hb' c4); (first | (go_simp; done) | (go_simp; with_reducible rfl) | (go_simp; go_bits; with_reducible rfl) | (go_simp; go_bits; done))); try simp only [Act.put, List.setIfInBounds_toArray, List.set_cons_zero, List.set_cons_succ]) | (apply linN_hotSkip; (simp only [List.getElem?_toArray, List.getElem?_cons_succ, List.getElem?_cons_zero]; rfl); (rfl); try simp only [Act.put, List.setIfInBounds_toArray, List.set_cons_zero, List.set_cons_succ])); (first | (apply linN_free; (simp only [List.getElem?_toArray, List.getElem?_cons_succ, List.getElem?_cons_zero]; rfl); (rfl); (intro w'; (first | (go_simp; done) | (go_simp; with_reducible rfl) | (go_simp; go_bits; with_reducible rfl) | (go_simp; go_bits; done))); try simp only [Act.put, List.setIfInBounds_toArray, List.set_cons_zero, List.set_cons_succ]) | (apply linN_freeSkip; (simp only [List.getElem?_toArray, List.getElem?_cons_succ, List.getElem?_cons_zero]; rfl); (rfl); try simp only [Act.put, List.setIfInBounds_toArray, List.set_cons_zero, List.set_cons_succ])); (first | (apply linN_free; (simp only [List.getElem?_toArray, List.getElem?_cons_succ, List.getElem?_cons_zero]; rfl); (rfl); (intro w'; (first | (go_simp; done) | (go_simp; with_reducible rfl) | (go_simp; go_bits; with_reducible rfl) | (go_simp; go_bits; done))); try simp only [Act.put, List.setIfInBounds_toArray, List.set_cons_zero, List.set_cons_succ]) | (apply linN_freeSkip; (simp only [List.getElem?_toArray, List.getElem?_cons_succ, List.getElem?_cons_zero]; rfl); (rfl); try simp only [Act.put, List.setIfInBounds_toArray, List.set_cons_zero, List.set_cons_succ])); (first | (apply linN_free; (simp only [List.getElem?_toArray, List.getElem?_cons_succ, List.getElem?_cons_zero]; rfl); (rfl); (intro w'; (first | (go_simp; done) | (go_simp; with_reducible rfl) | (go_simp; go_bits; with_reducible rfl) | (go_simp; go_bits; done))); try simp only [Act.put, List.setIfInBounds_toArray, List.set_cons_zero, List.set_cons_succ]) | (apply linN_freeSkip; (simp only [List.getElem?_toArray, List.getElem?_cons_succ, List.getElem?_cons_zero]; rfl); (rfl); try simp only [Act.put, List.setIfInBounds_toArray, List.set_cons_zero, List.set_cons_succ])); (first | (apply linN_hot; (simp only [List.getElem?_toArray, List.getElem?_cons_succ, List.getElem?_cons_zero]; rfl); (rfl); (intro w' hb'; (try have k_c2 := kpP_cell hb' c2); (try have k_c4 := kpP_cell hb' c4); (first | (go_simp; done) | (go_simp; with_reducible rfl) | (go_simp; go_bits; with_reducible rfl) | (go_simp; go_bits; done))); try simp only [Act.put, List.setIfInBounds_toArray, List.set_cons_zero, List.set_cons_succ]) | (apply linN_hotSkip; (simp only [List.getElem?_toArray, List.getElem?_cons_succ, List.getElem?_cons_zero]; rfl); (rfl); try simp only [Act.put, List.setIfInBounds_toArray, List.set_cons_zero, List.set_cons_succ])); (first | (apply linN_free; (simp only [List.getElem?_toArray, List.getElem?_cons_succ, List.getElem?_cons_zero]; rfl); (rfl); (intro w'; (first | (go_simp; done) | (go_simp; with_reducible rfl) | (go_simp; go_bits; with_reducible rfl) | (go_simp; go_bits; done))); try simp only [Act.put, List.setIfInBounds_toArray, List.set_cons_zero, List.set_cons_succ]) | (apply linN_freeSkip; (simp only [List.getElem?_toArray, List.getElem?_cons_succ, List.getElem?_cons_zero]; rfl); (rfl); try simp only [Act.put, List.setIfInBounds_toArray, List.set_cons_zero, List.set_cons_succ])); (first | (apply linN_free; (simp only [List.getElem?_toArray, List.getElem?_cons_succ, List.getElem?_cons_zero]; rfl); (rfl); (intro w'; (first | (go_simp; done) | (go_simp; with_reducible rfl) | (go_simp; go_bits; with_reducible rfl) | (go_simp; go_bits; done))); try simp only [Act.put, List.setIfInBounds_toArray, List.set_cons_zero, List.set_cons_succ]) | (apply linN_freeSkip; (simp only [List.getElem?_toArray, List.getElem?_cons_succ, List.getElem?_cons_zero]; rfl); (rfl); try simp only [Act.put, List.setIfInBounds_toArray, List.set_cons_zero, List.set_cons_succ])); (first | (apply linN_free; (simp only [List.getElem?_toArray, List.getElem?_cons_succ, List.getElem?_cons_zero]; rfl); (rfl); (intro w'; (first | (go_simp; done) | (go_simp; with_reducible rfl) | (go_simp; go_bits; with_reducible rfl) | (go_simp; go_bits; done))); try simp only [Act.put, List.setIfInBounds_toArray, List.set_cons_zero, List.set_cons_succ]) | (apply linN_freeSkip; (simp only [List.getElem?_toArray, List.getElem?_cons_succ, List.getElem?_cons_zero]; rfl); (rfl); try simp only [Act.put, List.setIfInBounds_toArray, List.set_cons_zero, List.set_cons_succ])); (first | (apply linN_free; (simp only [List.getElem?_toArray, List.getElem?_cons_succ, List.getElem?_cons_zero]; rfl); (rfl); (intro w'; (first | (go_simp; done) | (go_simp; with_reducible rfl) | (go_simp; go_bits; with_reducible rfl) | (go_simp; go_bits; done))); try simp only [Act.put, List.setIfInBounds_toArray, List.set_cons_zero, List.set_cons_succ]) | (apply linN_freeSkip; (simp only [List.getElem?_toArray, List.getElem?_cons_succ, List.getElem?_cons_zero]; rfl); (rfl); try simp only [Act.put, List.setIfInBounds_toArray, List.set_cons_zero, List.set_cons_succ])); (first | (apply linN_hot; (simp only [List.getElem?_toArray, List.getElem?_cons_succ, List.getElem?_cons_zero]; rfl); (rfl); (intro w' hb'; (try have k_c2 := kpP_cell hb' c2); (try have k_c4 := kpP_cell hb' c4); (first | (go_simp; done) | (go_simp; with_reducible rfl) | (go_simp; go_bits; with_reducible rfl) | (go_simp; go_bits; done))); try simp only [Act.put, List.setIfInBounds_toArray, List.set_cons_zero, List.set_cons_succ]) | (apply linN_hotSkip; (simp only [List.getElem?_toArray, List.getElem?_cons_succ, List.getElem?_cons_zero]; rfl); (rfl); try simp only [Act.put, List.setIfInBounds_toArray, List.set_cons_zero, List.set_cons_succ])); (first | (apply linN_free; (simp only [List.getElem?_toArray, List.getElem?_cons_succ, List.getElem?_cons_zero]; rfl); (rfl); (intro w'; (first | (go_simp; done) | (go_simp; with_reducible rfl) | (go_simp; go_bits; with_reducible rfl) | (go_simp; go_bits; done))); try simp only [Act.put, List.setIfInBounds_toArray, List.set_cons_zero, List.set_cons_succ]) | (apply linN_freeSkip; (simp only [List.getElem?_toArray, List.getElem?_cons_succ, List.getElem?_cons_zero]; rfl); (rfl); try simp only [Act.put, List.setIfInBounds_toArray, List.set_cons_zero, List.set_cons_succ])); (first | (apply linN_free; (simp only [List.getElem?_toArray, List.getElem?_cons_succ, List.getElem?_cons_zero]; rfl); (rfl); (intro w'; (first | (go_simp; done) | (go_simp; with_reducible rfl) | (go_simp; go_bits; with_reducible rfl) | (go_simp; go_bits; done))); try simp only [Act.put, List.setIfInBounds_toArray, List.set_cons_zero, List.set_cons_succ]) | (apply linN_freeSkip; (simp only [List.getElem?_toArray, List.getElem?_cons_succ, List.getElem?_cons_zero]; rfl); (rfl); try simp only [Act.put, List.setIfInBounds_toArray, List.set_cons_zero, List.set_cons_succ])); (first | (apply linN_free; (simp only [List.getElem?_toArray, List.getElem?_cons_succ, List.getElem?_cons_zero]; rfl); (rfl); (intro w'; (first | (go_simp; done) | (go_simp; with_reducible rfl) | (go_simp; go_bits; with_reducible rfl) | (go_simp; go_bits; done))); try simp only [Act.put, List.setIfInBounds_toArray, List.set_cons_zero, List.set_cons_succ]) | (apply linN_freeSkip; (simp only [List.getElem?_toArray, List.getElem?_cons_succ, List.getElem?_cons_zero]; rfl); (rfl); try simp only [Act.put, List.setIfInBounds_toArray, List.set_cons_zero, List.set_cons_succ])); (first | (apply linN_hot; (simp only [List.getElem?_toArray, List.getElem?_cons_succ, List.getElem?_cons_zero]; rfl); (rfl); (intro w' hb'; (try have k_c2 := kpP_cell hb' c2); (try have k_c4 := kpP_cell hb' c4); (first | (go_simp; done) | (go_simp; with_reducible rfl) | (go_simp; go_bits; with_reducible rfl) | (go_simp; go_bits; done))); try simp only [Act.put, List.setIfInBounds_toArray, List.set_cons_zero, List.set_cons_succ]) | (apply linN_hotSkip; (simp only [List.getElem?_toArray, List.getElem?_cons_succ, List.getElem?_cons_zero]; rfl); (rfl); try simp only [Act.put, List.setIfInBounds_toArray, List.set_cons_zero, List.set_cons_succ])); (first | (apply linN_free; (simp only [List.getElem?_toArray, List.getElem?_cons_succ, List.getElem?_cons_zero]; rfl); (rfl); (intro w'; (first | (go_simp; done) | (go_simp; with_reducible rfl) | (go_simp; go_bits; with_reducible rfl) | (go_simp; go_bits; done))); try simp only [Act.put, List.setIfInBounds_toArray, List.set_cons_zero, List.set_cons_succ]) | (apply linN_freeSkip; (simp only [List.getElem?_toArray, List.getElem?_cons_succ, List.getElem?_cons_zero]; rfl); (rfl); try simp only [Act.put, List.setIfInBounds_toArray, List.set_cons_zero, List.set_cons_succ])); (first | (apply linN_pass (wayKpP) (wayKpP); (simp only [List.getElem?_toArray, List.getElem?_cons_succ, List.getElem?_cons_zero]; rfl); (rfl); try simp only [Act.put, List.setIfInBounds_toArray, List.set_cons_zero, List.set_cons_succ]) | (apply linN_op; (simp only [List.getElem?_toArray, List.getElem?_cons_succ, List.getElem?_cons_zero]; rfl); (rfl); intro K hK; (first | (go_simp; (first | skip))); refine hK _ _ ?_ ?_; (show (KpP) _ _; (first | exact hdr2 | assumption | exact (wayKpP).refl _ | exact (wayKpP).refl _ | exact Below.refl _ _ | exact ⟨rfl, rfl, rfl, Nat.le_refl _, fun _ _ => rfl⟩ | exact but_set _ _ _ _ _ | exact but_drew (but_set _ _ _ _ _) | exact but_upd (by assumption) | exact but_below (by assumption) | exact belowB_alloc (by first | omega | (simp; done) | (simp; omega)) _ | exact belowB_mono (by first | omega | (simp; done) | (simp; omega)) (by assumption) | (first | exact rg_alloc (by simp; omega) (by simp; omega) _ | exact FR.of_below (below_alloc (Below.refl _ _) _) (by first | assumption | (simp; omega)) | exact DR.of_below (below_alloc (Below.refl _ _) _) (by first | assumption | (simp; omega))))); clear hK; try simp only [Act.put, List.setIfInBounds_toArray, List.set_cons_zero, List.set_cons_succ])); (first | (apply linN_pass (wayKpP) (wayKpP); (simp only [List.getElem?_toArray, List.getElem?_cons_succ, List.getElem?_cons_zero]; rfl); (rfl); try simp only [Act.put, List.setIfInBounds_toArray, List.set_cons_zero, List.set_cons_succ]) | (apply linN_op; (simp only [List.getElem?_toArray, List.getElem?_cons_succ, List.getElem?_cons_zero]; rfl); (rfl); intro K hK; (first | (go_simp; (first | skip))); refine hK _ _ ?_ ?_; (show (KpP) _ _; (first | exact hdr2 | assumption | exact (wayKpP).refl _ | exact (wayKpP).refl _ | exact Below.refl _ _ | exact ⟨rfl, rfl, rfl, Nat.le_refl _, fun _ _ => rfl⟩ | exact but_set _ _ _ _ _ | exact but_drew (but_set _ _ _ _ _) | exact but_upd (by assumption) | exact but_below (by assumption) | exact belowB_alloc (by first | omega | (simp; done) | (simp; omega)) _ | exact belowB_mono (by first | omega | (simp; done) | (simp; omega)) (by assumption) | (first | exact rg_alloc (by simp; omega) (by simp; omega) _ | exact FR.of_below (below_alloc (Below.refl _ _) _) (by first | assumption | (simp; omega)) | exact DR.of_below (below_alloc (Below.refl _ _) _) (by first | assumption | (simp; omega))))); clear hK; try simp only [Act.put, List.setIfInBounds_toArray, List.set_cons_zero, List.set_cons_succ])); (first | (apply linN_pass (wayKpP) (wayKpP); (simp only [List.getElem?_toArray, List.getElem?_cons_succ, List.getElem?_cons_zero]; rfl); (rfl); try simp only [Act.put, List.setIfInBounds_toArray, List.set_cons_zero, List.set_cons_succ]) | (apply linN_op; (simp only [List.getElem?_toArray, List.getElem?_cons_succ, List.getElem?_cons_zero]; rfl); (rfl); intro K hK; (first | (go_simp; (first | skip))); refine hK _ _ ?_ ?_; (show (KpP) _ _; (first | exact hdr2 | assumption | exact (wayKpP).refl _ | exact (wayKpP).refl _ | exact Below.refl _ _ | exact ⟨rfl, rfl, rfl, Nat.le_refl _, fun _ _ => rfl⟩ | exact but_set _ _ _ _ _ | exact but_drew (but_set _ _ _ _ _) | exact but_upd (by assumption) | exact but_below (by assumption) | exact belowB_alloc (by first | omega | (simp; done) | (simp; omega)) _ | exact belowB_mono (by first | omega | (simp; done) | (simp; omega)) (by assumption) | (first | exact rg_alloc (by simp; omega) (by simp; omega) _ | exact FR.of_below (below_alloc (Below.refl _ _) _) (by first | assumption | (simp; omega)) | exact DR.of_below (below_alloc (Below.refl _ _) _) (by first | assumption | (simp; omega))))); clear hK; try simp only [Act.put, List.setIfInBounds_toArray, List.set_cons_zero, List.set_cons_succ])); (first | (apply linN_pass (wayKpP) (wayKpP); (simp only [List.getElem?_toArray, List.getElem?_cons_succ, List.getElem?_cons_zero]; rfl); (rfl); try simp only [Act.put, List.setIfInBounds_toArray, List.set_cons_zero, List.set_cons_succ]) | (apply linN_op; (simp only [List.getElem?_toArray, List.getElem?_cons_succ, List.getElem?_cons_zero]; rfl); (rfl); intro K hK; (first | (go_simp; (first | skip))); refine hK _ _ ?_ ?_; (exact trivial); clear hK; try simp only [Act.put, List.setIfInBounds_toArray, List.set_cons_zero, List.set_cons_succ])); (first | (apply linN_free; (simp only [List.getElem?_toArray, List.getElem?_cons_succ, List.getElem?_cons_zero]; rfl); (rfl); (intro w'; (first | (go_simp; done) | (go_simp; with_reducible rfl) | (go_simp; go_bits; with_reducible rfl) | (go_simp; go_bits; done))); try simp only [Act.put, List.setIfInBounds_toArray, List.set_cons_zero, List.set_cons_succ]) | (apply linN_freeSkip; (simp only [List.getElem?_toArray, List.getElem?_cons_succ, List.getElem?_cons_zero]; rfl); (rfl); try simp only [Act.put, List.setIfInBounds_toArray, List.set_cons_zero, List.set_cons_succ])); (first | (apply linN_free; (simp only [List.getElem?_toArray, List.getElem?_cons_succ, List.getElem?_cons_zero]; rfl); (rfl); (intro w'; (first | (go_simp; done) | (go_simp; with_reducible rfl) | (go_simp; go_bits; with_reducible rfl) | (go_simp; go_bits; done))); try simp only [Act.put, List.setIfInBounds_toArray, List.set_cons_zero, List.set_cons_succ]) | (apply linN_freeSkip; (simp only [List.getElem?_toArray, List.getElem?_cons_succ, List.getElem?_cons_zero]; rfl); (rfl); try simp only [Act.put, List.setIfInBounds_toArray, List.set_cons_zero, List.set_cons_succ])); refine linN_end ?_)
  go_wp2_with fail
  go_ret
  exact ⟨rfl, below_drew (Below.refl _ _)⟩
set_option maxHeartbeats 4000000 in
set_option maxRecDepth 100000 in
theorem c_addG (h : RingAt W r g at_ size epoch n) (hP : PenAt W g b key boot seq) (hI : In W base b D nn) (hn : nn ≤ 700000) (hrb : base ≤ r) (hgb : base ≤ g) (hrg : r ≠ g) (hroom : n < size) (hsz : size ≤ 100000) (hat : at_ ≤ 100000) (hg : D.goes = false) (A : Option Addr) (m c : Nat) (rec : List UInt8) (hR : RdB W A m rec) (hm : m ≤ 900000) (hq : seq < 18446744073709551615) (ok : Bool) (hf : fitsB (12 + m) D.size = ok)
    (hg2 : ok = true → (addWr D key boot seq at_ n epoch rec).goes = false) :
    Calls Try.prog 38 #[.pointer (some ⟨r, 0, none⟩), .slice A m c] W fun e w' => e = .returned (.bool ok) ∧ In w' base b (if ok = true then (addWr D key boot seq at_ n epoch rec).flush else D) (nn + 2) ∧ PenAt w' g b key boot (if ok = true then seq + 1 else seq) ∧ RingAt w' r g at_ size epoch (if ok = true then n + 1 else n) ∧ PX [g, r] base W w' := by
  have hd : RingAt W.drew r g at_ size epoch n := ⟨h.row⟩
  have hPd : PenAt W.drew g b key boot seq := ⟨hP.row, hP.kl, hP.bl⟩
  have hId := hI.below (below_drew (Below.refl W.heap.size W))
  have hRd : RdB W.drew A m rec := hR
  have hlr : rec.length = m := hR.len
  have hglt : g < W.drew.heap.size := hP.lt
  have hrlt : r < W.drew.heap.size := h.lt
  have hle : base ≤ W.drew.heap.size := hI.le
  have k0 : W.drew.cell? ⟨r, 0, none⟩ = some (.pointer (some ⟨g, 0, none⟩)) := hd.row.cell 0 rfl
  have k1 : W.drew.cell? ⟨r, 1, none⟩ = some (.int .i64 (at_ : Int)) := hd.row.cell 1 rfl
  have k2 : W.drew.cell? ⟨r, 2, none⟩ = some (.int .i64 (size : Int)) := hd.row.cell 2 rfl
  have k3 : W.drew.cell? ⟨r, 3, none⟩ = some (.int .u64 (epoch : Int)) := hd.row.cell 3 rfl
  have k4 : W.drew.cell? ⟨r, 4, none⟩ = some (.int .i64 (n : Int)) := hd.row.cell 4 rfl
  have hgd : decide ((n : Int) ≥ (size : Int)) = false := decide_eq_false (by omega)
  have hgn : decide (size ≤ n) = false := decide_eq_false (by omega)
  have hgl : ¬ size ≤ n := by omega
  obtain ⟨q, hqq⟩ : ∃ q, at_ + n = q := ⟨_, rfl⟩
  have hqi : (at_ : Int) + (n : Int) = (q : Int) := by omega
  have hwq : IntKind.i64.wrap (q : Int) = (q : Int) := IntWalk.i64_in _ (by omega)
  have hl12 := rhL_length epoch n
  have HL12 := Lib.hid hl12
  have hlp : (rhL epoch n ++ rec).length = 12 + m := by rw [List.length_append, hl12, hlr]
  have HLP := Lib.hid hlp
  have HHD := Lib.hid (c_rhead epoch n (by omega) W.drew)
  have HCAT := Lib.hid (fun w2 A2 d2 (hb2 : Below W.drew.heap.size W.drew w2) (hr2 : RdB w2 A2 12 (rhL epoch n)) => c_cat2 w2 A2 A 12 m d2 c (rhL epoch n) rec hr2 (hRd.below hb2 (Nat.le_refl _)) (by decide) (by decide) (by omega))
  have HWR := Lib.hid (fun w3 A3 d3 (hb3 : Below W.drew.heap.size W.drew w3) (hr3 : RdB w3 A3 (12 + m) (rhL epoch n ++ rec)) => p_write (hPd.below hb3 hglt) (hId.below hb3) (by omega) hgb hg (q : Int) (wf_i64 (by omega) (by omega)) A3 (12 + m) d3 (rhL epoch n ++ rec) hr3 (Nat.zero_le _) hq ok hf)
  obtain ⟨y, hy⟩ : ∃ y : Nat, n + 1 = y := ⟨_, rfl⟩
  have hyi : (n : Int) + 1 = (y : Int) := by omega
  have hwy : IntKind.i64.wrap (y : Int) = (y : Int) := IntWalk.i64_in _ (by omega)
  have HADW := Lib.hid (show addWr D key boot seq at_ n epoch rec = D.write (q : Int) (sealL key boot seq (rhL epoch n ++ rec) D.size.toNat) by unfold addWr; rw [hqq])
  rw [HADW.out] at hg2 ⊢
  rw [hy]
  have HG2 := Lib.hid hg2
  generalize D.write (q : Int) (sealL key boot seq (rhL epoch n ++ rec) D.size.toNat) = D1 at *
  generalize rhL epoch n ++ rec = rr at *
  generalize rhL epoch n = hh at *
  clear hRd hlr hl12 hlp hf hg hg2 hR hm hq hroom hqq hI hP h hy HADW
  go_enter Try.func38, Try.ntmps38
  go_upto_region 1 with fail
  (refine wp_region_linN (KpP) (KpP) (wayKpP) (wayKpP) (fun _ _ h => h) (.free 0 (.free 1 (.free 2 (.hot 3 (.free 4 (.free 5 (.free 6 (.hot 7 (.free 8 (.free 9 (.free 10 (.free 11 (.free 12 (.hot 13 (.free 14 (.free 15 (.free 16 (.hot 17 (.free 18 (.free 19 (.free 20 (.hot 21 (.free 22 (.free 23 (.free 24 (.free 25 (.hot 26 (.free 27 (.free 28 (.free 29 (.hot 30 (.free 32 (.op 31 [(9, 31), (8, 9), (3, 8), (7, 8), (26, 31), (30, 31)] [13, 17, 21] [] (.op 33 [] [13, 17, 21] [] (.op 34 [] [13, 17, 21] [] (.op 35 [(13, 35), (22, 35), (17, 22), (21, 22)] [] [] (.free 36 (.free 37 .nil)))))))))))))))))))))))))))))))))))))) rfl (by kernel_rfl) (by kernel_rfl) (fun _ _ _ _ _ h => h) ?_; (first | (apply linN_free; (simp only [List.getElem?_toArray, List.getElem?_cons_succ, List.getElem?_cons_zero]; rfl); (rfl); (intro w'; (first | (go_simp; done) | (go_simp; with_reducible rfl) | (go_simp; go_bits; with_reducible rfl) | (go_simp; go_bits; done))); try simp only [Act.put, List.setIfInBounds_toArray, List.set_cons_zero, List.set_cons_succ]) | (apply linN_freeSkip; (simp only [List.getElem?_toArray, List.getElem?_cons_succ, List.getElem?_cons_zero]; rfl); (rfl); try simp only [Act.put, List.setIfInBounds_toArray, List.set_cons_zero, List.set_cons_succ])); (first | (apply linN_free; (simp only [List.getElem?_toArray, List.getElem?_cons_succ, List.getElem?_cons_zero]; rfl); (rfl); (intro w'; (first | (go_simp; done) | (go_simp; with_reducible rfl) | (go_simp; go_bits; with_reducible rfl) | (go_simp; go_bits; done))); try simp only [Act.put, List.setIfInBounds_toArray, List.set_cons_zero, List.set_cons_succ]) | (apply linN_freeSkip; (simp only [List.getElem?_toArray, List.getElem?_cons_succ, List.getElem?_cons_zero]; rfl); (rfl); try simp only [Act.put, List.setIfInBounds_toArray, List.set_cons_zero, List.set_cons_succ])); (first | (apply linN_free; (simp only [List.getElem?_toArray, List.getElem?_cons_succ, List.getElem?_cons_zero]; rfl); (rfl); (intro w'; (first | (go_simp; done) | (go_simp; with_reducible rfl) | (go_simp; go_bits; with_reducible rfl) | (go_simp; go_bits; done))); try simp only [Act.put, List.setIfInBounds_toArray, List.set_cons_zero, List.set_cons_succ]) | (apply linN_freeSkip; (simp only [List.getElem?_toArray, List.getElem?_cons_succ, List.getElem?_cons_zero]; rfl); (rfl); try simp only [Act.put, List.setIfInBounds_toArray, List.set_cons_zero, List.set_cons_succ])); (first | (apply linN_hot; (simp only [List.getElem?_toArray, List.getElem?_cons_succ, List.getElem?_cons_zero]; rfl); (rfl); (intro w' hb'; (try have k_k0 := kpP_cell hb' k0); (try have k_k1 := kpP_cell hb' k1); (try have k_k2 := kpP_cell hb' k2); (try have k_k3 := kpP_cell hb' k3); (try have k_k4 := kpP_cell hb' k4); (first | (go_simp; done) | (go_simp; with_reducible rfl) | (go_simp; go_bits; with_reducible rfl) | (go_simp; go_bits; done))); try simp only [Act.put, List.setIfInBounds_toArray, List.set_cons_zero, List.set_cons_succ]) | (apply linN_hotSkip; (simp only [List.getElem?_toArray, List.getElem?_cons_succ, List.getElem?_cons_zero]; rfl); (rfl); try simp only [Act.put, List.setIfInBounds_toArray, List.set_cons_zero, List.set_cons_succ])); (first | (apply linN_free; (simp only [List.getElem?_toArray, List.getElem?_cons_succ, List.getElem?_cons_zero]; rfl); (rfl); (intro w'; (first | (go_simp; done) | (go_simp; with_reducible rfl) | (go_simp; go_bits; with_reducible rfl) | (go_simp; go_bits; done))); try simp only [Act.put, List.setIfInBounds_toArray, List.set_cons_zero, List.set_cons_succ]) | (apply linN_freeSkip; (simp only [List.getElem?_toArray, List.getElem?_cons_succ, List.getElem?_cons_zero]; rfl); (rfl); try simp only [Act.put, List.setIfInBounds_toArray, List.set_cons_zero, List.set_cons_succ])); (first | (apply linN_free; (simp only [List.getElem?_toArray, List.getElem?_cons_succ, List.getElem?_cons_zero]; rfl); (rfl); (intro w'; (first | (go_simp; done) | (go_simp; with_reducible rfl) | (go_simp; go_bits; with_reducible rfl) | (go_simp; go_bits; done))); try simp only [Act.put, List.setIfInBounds_toArray, List.set_cons_zero, List.set_cons_succ]) | (apply linN_freeSkip; (simp only [List.getElem?_toArray, List.getElem?_cons_succ, List.getElem?_cons_zero]; rfl); (rfl); try simp only [Act.put, List.setIfInBounds_toArray, List.set_cons_zero, List.set_cons_succ])); (first | (apply linN_free; (simp only [List.getElem?_toArray, List.getElem?_cons_succ, List.getElem?_cons_zero]; rfl); (rfl); (intro w'; (first | (go_simp; done) | (go_simp; with_reducible rfl) | (go_simp; go_bits; with_reducible rfl) | (go_simp; go_bits; done))); try simp only [Act.put, List.setIfInBounds_toArray, List.set_cons_zero, List.set_cons_succ]) | (apply linN_freeSkip; (simp only [List.getElem?_toArray, List.getElem?_cons_succ, List.getElem?_cons_zero]; rfl); (rfl); try simp only [Act.put, List.setIfInBounds_toArray, List.set_cons_zero, List.set_cons_succ])); (first | (apply linN_hot; (simp only [List.getElem?_toArray, List.getElem?_cons_succ, List.getElem?_cons_zero]; rfl); (rfl); (intro w' hb'; (try have k_k0 := kpP_cell hb' k0); (try have k_k1 := kpP_cell hb' k1); (try have k_k2 := kpP_cell hb' k2); (try have k_k3 := kpP_cell hb' k3); (try have k_k4 := kpP_cell hb' k4); (first | (go_simp; done) | (go_simp; with_reducible rfl) | (go_simp; go_bits; with_reducible rfl) | (go_simp; go_bits; done))); try simp only [Act.put, List.setIfInBounds_toArray, List.set_cons_zero, List.set_cons_succ]) | (apply linN_hotSkip; (simp only [List.getElem?_toArray, List.getElem?_cons_succ, List.getElem?_cons_zero]; rfl); (rfl); try simp only [Act.put, List.setIfInBounds_toArray, List.set_cons_zero, List.set_cons_succ])); (first | (apply linN_free; (simp only [List.getElem?_toArray, List.getElem?_cons_succ, List.getElem?_cons_zero]; rfl); (rfl); (intro w'; (first | (go_simp; done) | (go_simp; with_reducible rfl) | (go_simp; go_bits; with_reducible rfl) | (go_simp; go_bits; done))); try simp only [Act.put, List.setIfInBounds_toArray, List.set_cons_zero, List.set_cons_succ]) | (apply linN_freeSkip; (simp only [List.getElem?_toArray, List.getElem?_cons_succ, List.getElem?_cons_zero]; rfl); (rfl); try simp only [Act.put, List.setIfInBounds_toArray, List.set_cons_zero, List.set_cons_succ])); (first | (apply linN_free; (simp only [List.getElem?_toArray, List.getElem?_cons_succ, List.getElem?_cons_zero]; rfl); (rfl); (intro w'; (first | (go_simp; done) | (go_simp; with_reducible rfl) | (go_simp; go_bits; with_reducible rfl) | (go_simp; go_bits; done))); try simp only [Act.put, List.setIfInBounds_toArray, List.set_cons_zero, List.set_cons_succ]) | (apply linN_freeSkip; (simp only [List.getElem?_toArray, List.getElem?_cons_succ, List.getElem?_cons_zero]; rfl); (rfl); try simp only [Act.put, List.setIfInBounds_toArray, List.set_cons_zero, List.set_cons_succ])); (first | (apply linN_free; (simp only [List.getElem?_toArray, List.getElem?_cons_succ, List.getElem?_cons_zero]; rfl); (rfl); (intro w'; (first | (go_simp; done) | (go_simp; with_reducible rfl) | (go_simp; go_bits; with_reducible rfl) | (go_simp; go_bits; done))); try simp only [Act.put, List.setIfInBounds_toArray, List.set_cons_zero, List.set_cons_succ]) | (apply linN_freeSkip; (simp only [List.getElem?_toArray, List.getElem?_cons_succ, List.getElem?_cons_zero]; rfl); (rfl); try simp only [Act.put, List.setIfInBounds_toArray, List.set_cons_zero, List.set_cons_succ])); (first | (apply linN_free; (simp only [List.getElem?_toArray, List.getElem?_cons_succ, List.getElem?_cons_zero]; rfl); (rfl); (intro w'; (first | (go_simp; done) | (go_simp; with_reducible rfl) | (go_simp; go_bits; with_reducible rfl) | (go_simp; go_bits; done))); try simp only [Act.put, List.setIfInBounds_toArray, List.set_cons_zero, List.set_cons_succ]) | (apply linN_freeSkip; (simp only [List.getElem?_toArray, List.getElem?_cons_succ, List.getElem?_cons_zero]; rfl); (rfl); try simp only [Act.put, List.setIfInBounds_toArray, List.set_cons_zero, List.set_cons_succ])); (first | (apply linN_free; (simp only [List.getElem?_toArray, List.getElem?_cons_succ, List.getElem?_cons_zero]; rfl); (rfl); (intro w'; (first | (go_simp; done) | (go_simp; with_reducible rfl) | (go_simp; go_bits; with_reducible rfl) | (go_simp; go_bits; done))); try simp only [Act.put, List.setIfInBounds_toArray, List.set_cons_zero, List.set_cons_succ]) | (apply linN_freeSkip; (simp only [List.getElem?_toArray, List.getElem?_cons_succ, List.getElem?_cons_zero]; rfl); (rfl); try simp only [Act.put, List.setIfInBounds_toArray, List.set_cons_zero, List.set_cons_succ])); (first | (apply linN_hot; (simp only [List.getElem?_toArray, List.getElem?_cons_succ, List.getElem?_cons_zero]; rfl); (rfl); (intro w' hb'; (try have k_k0 := kpP_cell hb' k0); (try have k_k1 := kpP_cell hb' k1); (try have k_k2 := kpP_cell hb' k2); (try have k_k3 := kpP_cell hb' k3); (try have k_k4 := kpP_cell hb' k4); (first | (go_simp; done) | (go_simp; with_reducible rfl) | (go_simp; go_bits; with_reducible rfl) | (go_simp; go_bits; done))); try simp only [Act.put, List.setIfInBounds_toArray, List.set_cons_zero, List.set_cons_succ]) | (apply linN_hotSkip; (simp only [List.getElem?_toArray, List.getElem?_cons_succ, List.getElem?_cons_zero]; rfl); (rfl); try simp only [Act.put, List.setIfInBounds_toArray, List.set_cons_zero, List.set_cons_succ])); (first | (apply linN_free; (simp only [List.getElem?_toArray, List.getElem?_cons_succ, List.getElem?_cons_zero]; rfl); (rfl); (intro w'; (first | (go_simp; done) | (go_simp; with_reducible rfl) | (go_simp; go_bits; with_reducible rfl) | (go_simp; go_bits; done))); try simp only [Act.put, List.setIfInBounds_toArray, List.set_cons_zero, List.set_cons_succ]) | (apply linN_freeSkip; (simp only [List.getElem?_toArray, List.getElem?_cons_succ, List.getElem?_cons_zero]; rfl); (rfl); try simp only [Act.put, List.setIfInBounds_toArray, List.set_cons_zero, List.set_cons_succ])); (first | (apply linN_free; (simp only [List.getElem?_toArray, List.getElem?_cons_succ, List.getElem?_cons_zero]; rfl); (rfl); (intro w'; (first | (go_simp; done) | (go_simp; with_reducible rfl) | (go_simp; go_bits; with_reducible rfl) | (go_simp; go_bits; done))); try simp only [Act.put, List.setIfInBounds_toArray, List.set_cons_zero, List.set_cons_succ]) | (apply linN_freeSkip; (simp only [List.getElem?_toArray, List.getElem?_cons_succ, List.getElem?_cons_zero]; rfl); (rfl); try simp only [Act.put, List.setIfInBounds_toArray, List.set_cons_zero, List.set_cons_succ])); (first | (apply linN_free; (simp only [List.getElem?_toArray, List.getElem?_cons_succ, List.getElem?_cons_zero]; rfl); (rfl); (intro w'; (first | (go_simp; done) | (go_simp; with_reducible rfl) | (go_simp; go_bits; with_reducible rfl) | (go_simp; go_bits; done))); try simp only [Act.put, List.setIfInBounds_toArray, List.set_cons_zero, List.set_cons_succ]) | (apply linN_freeSkip; (simp only [List.getElem?_toArray, List.getElem?_cons_succ, List.getElem?_cons_zero]; rfl); (rfl); try simp only [Act.put, List.setIfInBounds_toArray, List.set_cons_zero, List.set_cons_succ])); (first | (apply linN_hot; (simp only [List.getElem?_toArray, List.getElem?_cons_succ, List.getElem?_cons_zero]; rfl); (rfl); (intro w' hb'; (try have k_k0 := kpP_cell hb' k0); (try have k_k1 := kpP_cell hb' k1); (try have k_k2 := kpP_cell hb' k2); (try have k_k3 := kpP_cell hb' k3); (try have k_k4 := kpP_cell hb' k4); (first | (go_simp; done) | (go_simp; with_reducible rfl) | (go_simp; go_bits; with_reducible rfl) | (go_simp; go_bits; done))); try simp only [Act.put, List.setIfInBounds_toArray, List.set_cons_zero, List.set_cons_succ]) | (apply linN_hotSkip; (simp only [List.getElem?_toArray, List.getElem?_cons_succ, List.getElem?_cons_zero]; rfl); (rfl); try simp only [Act.put, List.setIfInBounds_toArray, List.set_cons_zero, List.set_cons_succ])); (first | (apply linN_free; (simp only [List.getElem?_toArray, List.getElem?_cons_succ, List.getElem?_cons_zero]; rfl); (rfl); (intro w'; (first | (go_simp; done) | (go_simp; with_reducible rfl) | (go_simp; go_bits; with_reducible rfl) | (go_simp; go_bits; done))); try simp only [Act.put, List.setIfInBounds_toArray, List.set_cons_zero, List.set_cons_succ]) | (apply linN_freeSkip; (simp only [List.getElem?_toArray, List.getElem?_cons_succ, List.getElem?_cons_zero]; rfl); (rfl); try simp only [Act.put, List.setIfInBounds_toArray, List.set_cons_zero, List.set_cons_succ])); (first | (apply linN_free; (simp only [List.getElem?_toArray, List.getElem?_cons_succ, List.getElem?_cons_zero]; rfl); (rfl); (intro w'; (first | (go_simp; done) | (go_simp; with_reducible rfl) | (go_simp; go_bits; with_reducible rfl) | (go_simp; go_bits; done))); try simp only [Act.put, List.setIfInBounds_toArray, List.set_cons_zero, List.set_cons_succ]) | (apply linN_freeSkip; (simp only [List.getElem?_toArray, List.getElem?_cons_succ, List.getElem?_cons_zero]; rfl); (rfl); try simp only [Act.put, List.setIfInBounds_toArray, List.set_cons_zero, List.set_cons_succ])); (first | (apply linN_free; (simp only [List.getElem?_toArray, List.getElem?_cons_succ, List.getElem?_cons_zero]; rfl); (rfl); (intro w'; (first | (go_simp; done) | (go_simp; with_reducible rfl) | (go_simp; go_bits; with_reducible rfl) | (go_simp; go_bits; done))); try simp only [Act.put, List.setIfInBounds_toArray, List.set_cons_zero, List.set_cons_succ]) | (apply linN_freeSkip; (simp only [List.getElem?_toArray, List.getElem?_cons_succ, List.getElem?_cons_zero]; rfl); (rfl); try simp only [Act.put, List.setIfInBounds_toArray, List.set_cons_zero, List.set_cons_succ])); (first | (apply linN_hot; (simp only [List.getElem?_toArray, List.getElem?_cons_succ, List.getElem?_cons_zero]; rfl); (rfl); (intro w' hb'; (try have k_k0 := kpP_cell hb' k0); (try have k_k1 := kpP_cell hb' k1); (try have k_k2 := kpP_cell hb' k2); (try have k_k3 := kpP_cell hb' k3); (try have k_k4 := kpP_cell hb' k4); (first | (go_simp; done) | (go_simp; with_reducible rfl) | (go_simp; go_bits; with_reducible rfl) | (go_simp; go_bits; done))); try simp only [Act.put, List.setIfInBounds_toArray, List.set_cons_zero, List.set_cons_succ]) | (apply linN_hotSkip; (simp only [List.getElem?_toArray, List.getElem?_cons_succ, List.getElem?_cons_zero]; rfl); (rfl); try simp only [Act.put, List.setIfInBounds_toArray, List.set_cons_zero, List.set_cons_succ])); (first | (apply linN_free; (simp only [List.getElem?_toArray, List.getElem?_cons_succ, List.getElem?_cons_zero]; rfl); (rfl); (intro w'; (first | (go_simp; done) | (go_simp; with_reducible rfl) | (go_simp; go_bits; with_reducible rfl) | (go_simp; go_bits; done))); try simp only [Act.put, List.setIfInBounds_toArray, List.set_cons_zero, List.set_cons_succ]) | (apply linN_freeSkip; (simp only [List.getElem?_toArray, List.getElem?_cons_succ, List.getElem?_cons_zero]; rfl); (rfl); try simp only [Act.put, List.setIfInBounds_toArray, List.set_cons_zero, List.set_cons_succ])); (first | (apply linN_free; (simp only [List.getElem?_toArray, List.getElem?_cons_succ, List.getElem?_cons_zero]; rfl); (rfl); (intro w'; (first | (go_simp; done) | (go_simp; with_reducible rfl) | (go_simp; go_bits; with_reducible rfl) | (go_simp; go_bits; done))); try simp only [Act.put, List.setIfInBounds_toArray, List.set_cons_zero, List.set_cons_succ]) | (apply linN_freeSkip; (simp only [List.getElem?_toArray, List.getElem?_cons_succ, List.getElem?_cons_zero]; rfl); (rfl); try simp only [Act.put, List.setIfInBounds_toArray, List.set_cons_zero, List.set_cons_succ])); (first | (apply linN_free; (simp only [List.getElem?_toArray, List.getElem?_cons_succ, List.getElem?_cons_zero]; rfl); (rfl); (intro w'; (first | (go_simp; done) | (go_simp; with_reducible rfl) | (go_simp; go_bits; with_reducible rfl) | (go_simp; go_bits; done))); try simp only [Act.put, List.setIfInBounds_toArray, List.set_cons_zero, List.set_cons_succ]) | (apply linN_freeSkip; (simp only [List.getElem?_toArray, List.getElem?_cons_succ, List.getElem?_cons_zero]; rfl); (rfl); try simp only [Act.put, List.setIfInBounds_toArray, List.set_cons_zero, List.set_cons_succ])); (first | (apply linN_free; (simp only [List.getElem?_toArray, List.getElem?_cons_succ, List.getElem?_cons_zero]; rfl); (rfl); (intro w'; (first | (go_simp; done) | (go_simp; with_reducible rfl) | (go_simp; go_bits; with_reducible rfl) | (go_simp; go_bits; done))); try simp only [Act.put, List.setIfInBounds_toArray, List.set_cons_zero, List.set_cons_succ]) | (apply linN_freeSkip; (simp only [List.getElem?_toArray, List.getElem?_cons_succ, List.getElem?_cons_zero]; rfl); (rfl); try simp only [Act.put, List.setIfInBounds_toArray, List.set_cons_zero, List.set_cons_succ])); (first | (apply linN_hot; (simp only [List.getElem?_toArray, List.getElem?_cons_succ, List.getElem?_cons_zero]; rfl); (rfl); (intro w' hb'; (try have k_k0 := kpP_cell hb' k0); (try have k_k1 := kpP_cell hb' k1); (try have k_k2 := kpP_cell hb' k2); (try have k_k3 := kpP_cell hb' k3); (try have k_k4 := kpP_cell hb' k4); (first | (go_simp; done) | (go_simp; with_reducible rfl) | (go_simp; go_bits; with_reducible rfl) | (go_simp; go_bits; done))); try simp only [Act.put, List.setIfInBounds_toArray, List.set_cons_zero, List.set_cons_succ]) | (apply linN_hotSkip; (simp only [List.getElem?_toArray, List.getElem?_cons_succ, List.getElem?_cons_zero]; rfl); (rfl); try simp only [Act.put, List.setIfInBounds_toArray, List.set_cons_zero, List.set_cons_succ])); (first | (apply linN_free; (simp only [List.getElem?_toArray, List.getElem?_cons_succ, List.getElem?_cons_zero]; rfl); (rfl); (intro w'; (first | (go_simp; done) | (go_simp; with_reducible rfl) | (go_simp; go_bits; with_reducible rfl) | (go_simp; go_bits; done))); try simp only [Act.put, List.setIfInBounds_toArray, List.set_cons_zero, List.set_cons_succ]) | (apply linN_freeSkip; (simp only [List.getElem?_toArray, List.getElem?_cons_succ, List.getElem?_cons_zero]; rfl); (rfl); try simp only [Act.put, List.setIfInBounds_toArray, List.set_cons_zero, List.set_cons_succ])); (first | (apply linN_free; (simp only [List.getElem?_toArray, List.getElem?_cons_succ, List.getElem?_cons_zero]; rfl); (rfl); (intro w'; (first | (go_simp; done) | (go_simp; with_reducible rfl) | (go_simp; go_bits; with_reducible rfl) | (go_simp; go_bits; done))); try simp only [Act.put, List.setIfInBounds_toArray, List.set_cons_zero, List.set_cons_succ]) | (apply linN_freeSkip; (simp only [List.getElem?_toArray, List.getElem?_cons_succ, List.getElem?_cons_zero]; rfl); (rfl); try simp only [Act.put, List.setIfInBounds_toArray, List.set_cons_zero, List.set_cons_succ])); (first | (apply linN_free; (simp only [List.getElem?_toArray, List.getElem?_cons_succ, List.getElem?_cons_zero]; rfl); (rfl); (intro w'; (first | (go_simp; done) | (go_simp; with_reducible rfl) | (go_simp; go_bits; with_reducible rfl) | (go_simp; go_bits; done))); try simp only [Act.put, List.setIfInBounds_toArray, List.set_cons_zero, List.set_cons_succ]) | (apply linN_freeSkip; (simp only [List.getElem?_toArray, List.getElem?_cons_succ, List.getElem?_cons_zero]; rfl); (rfl); try simp only [Act.put, List.setIfInBounds_toArray, List.set_cons_zero, List.set_cons_succ])); (first | (apply linN_hot; (simp only [List.getElem?_toArray, List.getElem?_cons_succ, List.getElem?_cons_zero]; rfl); (rfl); (intro w' hb'; (try have k_k0 := kpP_cell hb' k0); (try have k_k1 := kpP_cell hb' k1); (try have k_k2 := kpP_cell hb' k2); (try have k_k3 := kpP_cell hb' k3); (try have k_k4 := kpP_cell hb' k4); (first | (go_simp; done) | (go_simp; with_reducible rfl) | (go_simp; go_bits; with_reducible rfl) | (go_simp; go_bits; done))); try simp only [Act.put, List.setIfInBounds_toArray, List.set_cons_zero, List.set_cons_succ]) | (apply linN_hotSkip; (simp only [List.getElem?_toArray, List.getElem?_cons_succ, List.getElem?_cons_zero]; rfl); (rfl); try simp only [Act.put, List.setIfInBounds_toArray, List.set_cons_zero, List.set_cons_succ])); (first | (apply linN_free; (simp only [List.getElem?_toArray, List.getElem?_cons_succ, List.getElem?_cons_zero]; rfl); (rfl); (intro w'; (first | (go_simp; done) | (go_simp; with_reducible rfl) | (go_simp; go_bits; with_reducible rfl) | (go_simp; go_bits; done))); try simp only [Act.put, List.setIfInBounds_toArray, List.set_cons_zero, List.set_cons_succ]) | (apply linN_freeSkip; (simp only [List.getElem?_toArray, List.getElem?_cons_succ, List.getElem?_cons_zero]; rfl); (rfl); try simp only [Act.put, List.setIfInBounds_toArray, List.set_cons_zero, List.set_cons_succ])); (first | (apply linN_pass (wayKpP) (wayKpP); (simp only [List.getElem?_toArray, List.getElem?_cons_succ, List.getElem?_cons_zero]; rfl); (rfl); try simp only [Act.put, List.setIfInBounds_toArray, List.set_cons_zero, List.set_cons_succ]) | (apply linN_op; (simp only [List.getElem?_toArray, List.getElem?_cons_succ, List.getElem?_cons_zero]; rfl); (rfl); intro K hK; (first | (go_simp; (first | (go_at_call 74; (with_reducible refine HHD.out.mono ?_); rintro e w2 ⟨v2, rfl, ho2, hb2⟩; have hdr2 : KpP _ w2 := hb2; (obtain ⟨A2, d2, rfl, ld2, -, hr2⟩ := ho2.form); (rw [HL12.out] at hr2 ld2 ⊢)) | (go_at_call 73; (with_reducible refine (HCAT.out w2 A2 d2 hb2 hr2).mono ?_); rintro e w3 ⟨v3, rfl, ho3, hb3, hdr2⟩; (obtain ⟨A3, d3, rfl, ld3, -, hr3⟩ := ho3.form); (rw [HLP.out] at hr3 ld3 ⊢)) | (go_at_call 19; (with_reducible refine (HWR.out w3 A3 d3 (below_two hb2 hb3) hr3).mono ?_); rintro e w4 ⟨rfl, hI4, hP4, hp4⟩) | skip))); refine hK _ _ ?_ ?_; (show (KpP) _ _; (first | exact hdr2 | assumption | exact (wayKpP).refl _ | exact (wayKpP).refl _ | exact Below.refl _ _ | exact ⟨rfl, rfl, rfl, Nat.le_refl _, fun _ _ => rfl⟩ | exact but_set _ _ _ _ _ | exact but_drew (but_set _ _ _ _ _) | exact but_upd (by assumption) | exact but_below (by assumption) | exact belowB_alloc (by first | omega | (simp; done) | (simp; omega)) _ | exact belowB_mono (by first | omega | (simp; done) | (simp; omega)) (by assumption) | (first | exact rg_alloc (by simp; omega) (by simp; omega) _ | exact FR.of_below (below_alloc (Below.refl _ _) _) (by first | assumption | (simp; omega)) | exact DR.of_below (below_alloc (Below.refl _ _) _) (by first | assumption | (simp; omega))))); clear hK; try simp only [Act.put, List.setIfInBounds_toArray, List.set_cons_zero, List.set_cons_succ])); (first | (apply linN_pass (wayKpP) (wayKpP); (simp only [List.getElem?_toArray, List.getElem?_cons_succ, List.getElem?_cons_zero]; rfl); (rfl); try simp only [Act.put, List.setIfInBounds_toArray, List.set_cons_zero, List.set_cons_succ]) | (apply linN_op; (simp only [List.getElem?_toArray, List.getElem?_cons_succ, List.getElem?_cons_zero]; rfl); (rfl); intro K hK; (first | (go_simp; (first | (go_at_call 74; (with_reducible refine HHD.out.mono ?_); rintro e w2 ⟨v2, rfl, ho2, hb2⟩; have hdr2 : KpP _ w2 := hb2; (obtain ⟨A2, d2, rfl, ld2, -, hr2⟩ := ho2.form); (rw [HL12.out] at hr2 ld2 ⊢)) | (go_at_call 73; (with_reducible refine (HCAT.out w2 A2 d2 hb2 hr2).mono ?_); rintro e w3 ⟨v3, rfl, ho3, hb3, hdr2⟩; (obtain ⟨A3, d3, rfl, ld3, -, hr3⟩ := ho3.form); (rw [HLP.out] at hr3 ld3 ⊢)) | (go_at_call 19; (with_reducible refine (HWR.out w3 A3 d3 (below_two hb2 hb3) hr3).mono ?_); rintro e w4 ⟨rfl, hI4, hP4, hp4⟩) | skip))); refine hK _ _ ?_ ?_; (show (KpP) _ _; (first | exact hdr2 | assumption | exact (wayKpP).refl _ | exact (wayKpP).refl _ | exact Below.refl _ _ | exact ⟨rfl, rfl, rfl, Nat.le_refl _, fun _ _ => rfl⟩ | exact but_set _ _ _ _ _ | exact but_drew (but_set _ _ _ _ _) | exact but_upd (by assumption) | exact but_below (by assumption) | exact belowB_alloc (by first | omega | (simp; done) | (simp; omega)) _ | exact belowB_mono (by first | omega | (simp; done) | (simp; omega)) (by assumption) | (first | exact rg_alloc (by simp; omega) (by simp; omega) _ | exact FR.of_below (below_alloc (Below.refl _ _) _) (by first | assumption | (simp; omega)) | exact DR.of_below (below_alloc (Below.refl _ _) _) (by first | assumption | (simp; omega))))); clear hK; try simp only [Act.put, List.setIfInBounds_toArray, List.set_cons_zero, List.set_cons_succ])); (first | (apply linN_pass (wayKpP) (wayKpP); (simp only [List.getElem?_toArray, List.getElem?_cons_succ, List.getElem?_cons_zero]; rfl); (rfl); try simp only [Act.put, List.setIfInBounds_toArray, List.set_cons_zero, List.set_cons_succ]) | (apply linN_op; (simp only [List.getElem?_toArray, List.getElem?_cons_succ, List.getElem?_cons_zero]; rfl); (rfl); intro K hK; (first | (go_simp; (first | (go_at_call 74; (with_reducible refine HHD.out.mono ?_); rintro e w2 ⟨v2, rfl, ho2, hb2⟩; have hdr2 : KpP _ w2 := hb2; (obtain ⟨A2, d2, rfl, ld2, -, hr2⟩ := ho2.form); (rw [HL12.out] at hr2 ld2 ⊢)) | (go_at_call 73; (with_reducible refine (HCAT.out w2 A2 d2 hb2 hr2).mono ?_); rintro e w3 ⟨v3, rfl, ho3, hb3, hdr2⟩; (obtain ⟨A3, d3, rfl, ld3, -, hr3⟩ := ho3.form); (rw [HLP.out] at hr3 ld3 ⊢)) | (go_at_call 19; (with_reducible refine (HWR.out w3 A3 d3 (below_two hb2 hb3) hr3).mono ?_); rintro e w4 ⟨rfl, hI4, hP4, hp4⟩) | skip))); refine hK _ _ ?_ ?_; (show (KpP) _ _; (first | exact hdr2 | assumption | exact (wayKpP).refl _ | exact (wayKpP).refl _ | exact Below.refl _ _ | exact ⟨rfl, rfl, rfl, Nat.le_refl _, fun _ _ => rfl⟩ | exact but_set _ _ _ _ _ | exact but_drew (but_set _ _ _ _ _) | exact but_upd (by assumption) | exact but_below (by assumption) | exact belowB_alloc (by first | omega | (simp; done) | (simp; omega)) _ | exact belowB_mono (by first | omega | (simp; done) | (simp; omega)) (by assumption) | (first | exact rg_alloc (by simp; omega) (by simp; omega) _ | exact FR.of_below (below_alloc (Below.refl _ _) _) (by first | assumption | (simp; omega)) | exact DR.of_below (below_alloc (Below.refl _ _) _) (by first | assumption | (simp; omega))))); clear hK; try simp only [Act.put, List.setIfInBounds_toArray, List.set_cons_zero, List.set_cons_succ])); (first | (apply linN_pass (wayKpP) (wayKpP); (simp only [List.getElem?_toArray, List.getElem?_cons_succ, List.getElem?_cons_zero]; rfl); (rfl); try simp only [Act.put, List.setIfInBounds_toArray, List.set_cons_zero, List.set_cons_succ]) | (apply linN_op; (simp only [List.getElem?_toArray, List.getElem?_cons_succ, List.getElem?_cons_zero]; rfl); (rfl); intro K hK; (first | (go_simp; (first | (go_at_call 74; (with_reducible refine HHD.out.mono ?_); rintro e w2 ⟨v2, rfl, ho2, hb2⟩; have hdr2 : KpP _ w2 := hb2; (obtain ⟨A2, d2, rfl, ld2, -, hr2⟩ := ho2.form); (rw [HL12.out] at hr2 ld2 ⊢)) | (go_at_call 73; (with_reducible refine (HCAT.out w2 A2 d2 hb2 hr2).mono ?_); rintro e w3 ⟨v3, rfl, ho3, hb3, hdr2⟩; (obtain ⟨A3, d3, rfl, ld3, -, hr3⟩ := ho3.form); (rw [HLP.out] at hr3 ld3 ⊢)) | (go_at_call 19; (with_reducible refine (HWR.out w3 A3 d3 (below_two hb2 hb3) hr3).mono ?_); rintro e w4 ⟨rfl, hI4, hP4, hp4⟩) | skip))); refine hK _ _ ?_ ?_; (exact trivial); clear hK; try simp only [Act.put, List.setIfInBounds_toArray, List.set_cons_zero, List.set_cons_succ])); (first | (apply linN_free; (simp only [List.getElem?_toArray, List.getElem?_cons_succ, List.getElem?_cons_zero]; rfl); (rfl); (intro w'; (first | (go_simp; done) | (go_simp; with_reducible rfl) | (go_simp; go_bits; with_reducible rfl) | (go_simp; go_bits; done))); try simp only [Act.put, List.setIfInBounds_toArray, List.set_cons_zero, List.set_cons_succ]) | (apply linN_freeSkip; (simp only [List.getElem?_toArray, List.getElem?_cons_succ, List.getElem?_cons_zero]; rfl); (rfl); try simp only [Act.put, List.setIfInBounds_toArray, List.set_cons_zero, List.set_cons_succ])); (first | (apply linN_free; (simp only [List.getElem?_toArray, List.getElem?_cons_succ, List.getElem?_cons_zero]; rfl); (rfl); (intro w'; (first | (go_simp; done) | (go_simp; with_reducible rfl) | (go_simp; go_bits; with_reducible rfl) | (go_simp; go_bits; done))); try simp only [Act.put, List.setIfInBounds_toArray, List.set_cons_zero, List.set_cons_succ]) | (apply linN_freeSkip; (simp only [List.getElem?_toArray, List.getElem?_cons_succ, List.getElem?_cons_zero]; rfl); (rfl); try simp only [Act.put, List.setIfInBounds_toArray, List.set_cons_zero, List.set_cons_succ])); refine linN_end ?_)
  have hB3 : Below W.heap.size W w3 := (below_drew (Below.refl W.heap.size W)).trans (show Below W.heap.size W.drew w3 from below_two hb2 hb3)
  have hR4 : RingAt w4 r g at_ size epoch n := (hd.below (below_two hb2 hb3) hrlt).pr hp4 hrg
  have hpx4 : PX [g, r] base W w4 := (PX.of_below hB3 hle).trans (PX.of_pr hp4 (by simp))
  clear k0 k1 k2 k3 k4 hgd hgn hgl hqi hwq HHD HCAT HWR hb2 hb3 ho2 ho3 hr2 hr3 hd hPd hId hdr2 hp4 hB3
  cases ok with
  | false =>
    simp only [Bool.false_eq_true, if_false] at hI4 hP4 ⊢
    have H := Lib.hid (And.intro (hI4.monoR (show nn + 1 ≤ nn + 2 by omega)) (And.intro hP4 (And.intro hR4 hpx4)))
    clear hI4 hP4 hR4 hpx4
    go_wp2_with fail
    go_ret
    exact ⟨rfl, H.out⟩
  | true =>
    simp only [if_true] at hI4 hP4 ⊢
    have k0 : w4.cell? ⟨r, 0, none⟩ = some (.pointer (some ⟨g, 0, none⟩)) := hR4.row.cell 0 rfl
    have HFL := Lib.hid (p_flush hP4 hI4 (by omega) (HG2.out rfl))
    go_upto_region 4 with (go_at_call 28; (with_reducible refine HFL.out.mono ?_); rintro e w5 ⟨rfl, hI5, hd5⟩)
    have hP5 := hP4.dr hd5
    have hR5 := hR4.dr hd5
    have hpx5 := hpx4.trans ((PX.of_pr (X := [g, r]) (PR.of_dr g hd5)) (by simp))
    have k4 : w5.cell? ⟨r, 4, none⟩ = some (.int .i64 (n : Int)) := hR5.row.cell 4 rfl
    have z4 := hR5.row.free 4
    have hI6 := hI5.set (j := 4) hR5.row (.int .i64 (y : Int)) (by decide) hrb
    have hP6 := hP5.set (j := 4) (.int .i64 (y : Int)) (Ne.symm hrg)
    have hR6 : RingAt (w5.setCell ⟨r, 4, none⟩ (.int .i64 (y : Int))) r g at_ size epoch y := ⟨hR5.row.set 4 (.int .i64 (y : Int))⟩
    have hpx6 := hpx5.trans (PX.set (X := [g, r]) (j := 4) (v := .int .i64 (y : Int)) hrb (by simp))
    have H := Lib.hid (And.intro hI6 (And.intro hP6 (And.intro hR6 hpx6)))
    clear hI4 hP4 hR4 hpx4 hI5 hP5 hR5 hpx5 hI6 hP6 hR6 hpx6 HFL k0 hd5
    go_wp2_with fail
    go_ret
    exact ⟨rfl, H.out⟩
end Go.Proofs.Ytmdmhjcdaejlkaa

/- Rows of bytes of the call's own: [][]byte that is appended to. -/
set_option linter.unusedVariables false
set_option linter.unusedSimpArgs false
namespace Go.Proofs.Ytmdmhjcdaejlkaa
open Go.RowKit

def OwnM (W : World) (base B : Nat) (v : Value) (xss : List (List UInt8)) : Prop :=
  ∃ vs : List Value, vs.length = xss.length ∧ (∀ (j : Nat) (u : Value) (xs : List UInt8), vs[j]? = some u → xss[j]? = some xs → BytesAt W base u xs) ∧ W.ownsRow B 24 1 v xss.length vs
variable {W W' : World} {base B : Nat} {v : Value} {xss : List (List UInt8)}
theorem OwnM.nil_ (W : World) (base B : Nat) : OwnM W base B (.slice none 0 0) [] := ⟨[], rfl, fun j u xs h => by simp at h, by simp, .inl ⟨rfl, rfl⟩⟩
theorem OwnM.form (h : OwnM W base B v xss) : ∃ A c, v = .slice A xss.length c := by
  obtain ⟨vs, -, -, h3⟩ := h
  obtain ⟨A, c, e, -, -⟩ := own_form h3
  exact ⟨A, c, e⟩
theorem OwnM.drS {S : List TypeId} (h : OwnM W base B v xss) (hd : DR S base W W') (h1 : 5 ∉ S) (h2' : 24 ∉ S) : OwnM W' base B v xss := by
  obtain ⟨vs, e1, h2, h3⟩ := h
  refine ⟨vs, e1, fun j u xs hu hx => (h2 j u xs hu hx).keep hd h1, h3.1, ?_⟩
  rcases h3.2 with h | ⟨g, cap, cur, hv, hg, hh, r⟩
  · exact .inl h
  · exact .inr ⟨g, cap, cur, hv, hg, hd.typ _ _ _ _ hh h2', r⟩
theorem OwnM.dr (h : OwnM W base B v xss) (hd : DR dTy base W W') : OwnM W' base B v xss := by
  obtain ⟨vs, h1, h2, h3⟩ := h
  refine ⟨vs, h1, fun j u xs hu hx => (h2 j u xs hu hx).keep hd (by decide), h3.1, ?_⟩
  rcases h3.2 with h | ⟨g, cap, cur, hv, hg, hh, r⟩
  · exact .inl h
  · exact .inr ⟨g, cap, cur, hv, hg, hd.typ _ _ _ _ hh (by decide), r⟩
theorem OwnM.below (h : OwnM W base B v xss) (hb : Below W.heap.size W W') (hbase : base ≤ W.heap.size) : OwnM W' base B v xss := h.dr (DR.of_below hb hbase)
theorem OwnM.mono {B' : Nat} (h : OwnM W base B v xss) (hB : B' ≤ B) : OwnM W base B' v xss := by
  obtain ⟨vs, h1, h2, h3⟩ := h
  exact ⟨vs, h1, h2, own_mono h3 hB⟩
theorem OwnM.elem (h : OwnM W base B v xss) {j : Nat} {xs : List UInt8} (hx : xss[j]? = some xs) : ∃ g c A d, v = .slice (some ⟨g, 0, none⟩) xss.length c ∧ W.cell? ⟨g, j, none⟩ = some (.slice A xs.length d) ∧ xs.length ≤ d ∧ BytesAt W base (.slice A xs.length d) xs := by
  obtain ⟨vs, h1, h2, h3⟩ := h
  have hj : j < xss.length := (List.getElem?_eq_some_iff.1 hx).1
  rcases h3.2 with ⟨_, h0⟩ | ⟨g, cap, cur, rfl, hg, hh, hn, hm, hs, ht⟩
  · omega
  · have hu : vs[j]? = some vs[j] := List.getElem?_eq_getElem (by omega)
    have hb := h2 j _ xs hu hx
    have hb' := hb
    obtain ⟨A, d, e, l, -⟩ := hb
    have hc := World.ownsRow.cells h3 (g := g) rfl j _ hu
    rw [e] at hc hb'
    rw [ad_none, Nat.zero_add] at hc
    exact ⟨g, cap, A, d, rfl, hc, l, hb'⟩
theorem In.frT2 {W W' : World} {base b n : Nat} {D : Dk} {T : TypeId} (h : In W base b D n) (hf : FR [T] [] base W W') (hT : T ∉ 5 :: dTy) : In W' base b D n := by
  have hT' : 5 ∉ [T] ∧ 93 ∉ [T] ∧ 101 ∉ [T] ∧ 45 ∉ [T] := by
    simp only [dTy, List.mem_cons, List.not_mem_nil, or_false, not_or] at hT ⊢
    exact ⟨fun e => hT.1 e.symm, fun e => hT.2.1 e.symm, fun e => hT.2.2.1 e.symm, fun e => hT.2.2.2 e.symm⟩
  obtain ⟨mS, mN, lv, tv, hrow, hbb, hbS, hbN, hne, h1, h2, h3, h4⟩ := h.dk.out
  exact ⟨⟨⟨mS, mN, lv, tv, hf.row hrow hT'.2.1, hbb, hbS, hbN, hne, h1.fr hf hT'.1 (by simp) (Nat.le_refl _), h2.fr hf hT'.1 (by simp) (Nat.le_refl _), h3.fr hf hT'.1 hT'.2.2.1, h4.fr hf hT'.1 hT'.2.2.2⟩⟩, Nat.le_trans h.le hf.size, h.bd⟩
theorem info_bytes : (Try.prog.info? 24).map (fun i => (i.zero, i.size, i.bytes)) = some (some (.slice none 0 0), 1, 24) := by kernel_rfl
theorem wpl_pushM {ops : Array Oper} {rest : List Oper} {o : Oper} {a : Act} {Q : Exit → Act → World → Prop} {s x : Operand} {A : Option Addr} {n d : Nat} {xs : List UInt8} (hgd : o.guard = none)
    (ho : o.op = .call { callee := .builtin .append, args := #[s, x], argTypes := #[40, 40] }) (HO : OwnM W base B v xss) (hu : BytesAt W base (.slice A n d) xs) (hs : a.eval s = v) (hx : a.eval x = .slice (some ⟨W.heap.size, 0, none⟩) 1 1)
    (hB : B ≤ W.heap.size) (hbB : base ≤ B) (hl : xss.length ≤ 1000000)
    (h : ∀ v1 w1, OwnM w1 base B v1 (xss ++ [xs]) → FR [24] [] base W w1 → Below B W w1 → wpList Try.prog ops Q rest (a.put o.dst v1) w1) :
    wpList Try.prog ops Q (o :: rest) a (W.alloc (.cells #[.slice A n d] 24)) := by
  obtain ⟨vs, h1, h2, h3⟩ := HO
  have hb0 := below_alloc (Below.refl W.heap.size W) (.cells #[.slice A n d] 24)
  have h3' := World.ownsRow.alloc h3 (.cells #[.slice A n d] 24)
  refine wpl_appOne (base := B) (v := v) (n := xss.length) (news := [.slice A n d]) hgd ho Try.underlying40 info_bytes rfl (by decide) (by decide) hs hx h3' rfl (fun j v hj => cell_one_new _ _ _ j v hj) (by simp [Value.oneCell']) hl (by simp; omega) ?_
  intro v1 w1 ho1 hg1
  have hfr : ∀ b', b' ≤ B → FR [24] [] b' W w1 := fun b' hb' => (FR.of_below hb0 (Nat.le_trans hb' hB)).trans (FR.of_own hg1 (own_mono h3' hb') (by simp) (by simp; omega))
  refine h v1 w1 ⟨vs ++ [.slice A n d], by simp [h1], fun j u ys hju hjx => ?_, by rw [List.length_append]; exact ho1⟩ (hfr base hbB) (hfr B (Nat.le_refl _)).dr.below
  rcases Nat.lt_or_ge j vs.length with hj | hj
  · rw [List.getElem?_append_left hj] at hju
    rw [List.getElem?_append_left (by omega)] at hjx
    exact (h2 j u ys hju hjx).keep (hfr base hbB).dr (by decide)
  · rw [List.getElem?_append_right hj] at hju
    rw [List.getElem?_append_right (by omega)] at hjx
    have e0 : j - vs.length = 0 := by
      rcases Nat.eq_zero_or_pos (j - vs.length) with h | h
      · exact h
      · rw [List.getElem?_eq_none (by simp; omega)] at hju; cases hju
    rw [e0] at hju
    rw [← h1, e0] at hjx
    cases hju
    cases hjx
    exact hu.keep (hfr base hbB).dr (by decide)
end Go.Proofs.Ytmdmhjcdaejlkaa

/- The log: Load. -/
set_option linter.unusedVariables false
set_option linter.unusedSimpArgs false
namespace Go.Proofs.Ytmdmhjcdaejlkaa
open Go.RowKit

/-- a text's record, of an epoch, at the i-th place -/
def recN (t : List UInt8) (e i : Nat) : Option (List UInt8) := if 12 ≤ t.length ∧ t.take 12 = rhL e i then some (t.drop 12) else none
def recA (key : List UInt8) (D : Dk) (at_ : Int) (e i : Nat) : Option (List UInt8) := (openL key (D.at_ D.now (at_ + (i : Int)))).bind fun t => recN t e i
/-- what is loaded of the first i places -/
def loadN (key : List UInt8) (D : Dk) (at_ : Int) (e : Nat) : Nat → List (List UInt8)
  | 0 => []
  | i + 1 => match recA key D at_ e i with
    | some x => if (loadN key D at_ e i).length = i then loadN key D at_ e i ++ [x] else loadN key D at_ e i
    | none => loadN key D at_ e i
theorem loadN_le (key : List UInt8) (D : Dk) (at_ : Int) (e i : Nat) : (loadN key D at_ e i).length ≤ i := by
  induction i with
  | zero => exact Nat.le_refl _
  | succ i ih =>
    unfold loadN
    split
    · split
      · rw [List.length_append]; simp; omega
      · omega
    · omega
theorem loadN_no {key : List UInt8} {D : Dk} {at_ : Int} {e i : Nat} (h : recA key D at_ e i = none) : loadN key D at_ e (i + 1) = loadN key D at_ e i := by rw [loadN, h]
theorem loadN_gap {key : List UInt8} {D : Dk} {at_ : Int} {e i : Nat} (h : (loadN key D at_ e i).length ≠ i) : loadN key D at_ e (i + 1) = loadN key D at_ e i := by
  rw [loadN]
  cases recA key D at_ e i with
  | none => rfl
  | some x => exact if_neg h
theorem loadN_yes {key : List UInt8} {D : Dk} {at_ : Int} {e i : Nat} {x : List UInt8} (h : recA key D at_ e i = some x) (hl : (loadN key D at_ e i).length = i) : loadN key D at_ e (i + 1) = loadN key D at_ e i ++ [x] := by rw [loadN, h]; exact if_pos hl
theorem recA_none {key : List UInt8} {D : Dk} {at_ : Int} {e i : Nat} (h : openL key (D.at_ D.now (at_ + (i : Int))) = none) : recA key D at_ e i = none := by unfold recA; rw [h]; rfl
theorem recA_some {key : List UInt8} {D : Dk} {at_ : Int} {e i : Nat} {t : List UInt8} (h : openL key (D.at_ D.now (at_ + (i : Int))) = some t) : recA key D at_ e i = recN t e i := by unfold recA; rw [h]; rfl
theorem PX.step {X : List Nat} {base : Nat} {W a b : World} (h : PX X base W a) (h1 : Below base a b) (h2 : ∀ k, k < W.heap.size → b.heap[k]? = a.heap[k]?) : PX X base W b := ⟨h.1.trans h1, fun k c T hr hT hk => (h2 k hr.lt).trans (h.2 k c T hr hT hk)⟩
theorem openL_len {key b x : List UInt8} (h : openL key b = some x) : x.length ≤ b.length := by
  unfold openL at h
  split at h
  · have := (unpadL_some h).2
    omega
  · cases h
theorem at_len {D : Dk} (h : D.size ≤ 60000) (q : Int) : (D.at_ D.now q).length ≤ 60000 := by
  cases hh : D.has q with
  | false => rw [at_not hh]; exact Nat.zero_le _
  | true => rw [at_yes hh]; exact fit_le h _
variable {W : World} {r g b base nn at_ size epoch n boot seq : Nat} {key : List UInt8} {D : Dk}
set_option maxHeartbeats 8000000 in
set_option maxRecDepth 100000 in
theorem c_load (h : RingAt W r g at_ size epoch n) (hP : PenAt W g b key boot seq) (hI : In W base b D nn) (hn : nn ≤ 600000) (hfr : Free D) (hrb : base ≤ r) (hgb : base ≤ g) (hrg : r ≠ g) (hsz : size ≤ 1000) (hat : at_ ≤ 100000) (e : Nat) :
    Calls Try.prog 40 #[.pointer (some ⟨r, 0, none⟩), .int .u64 (e : Int)] W fun x w' => ∃ v, x = .returned v ∧ OwnM w' base W.heap.size v (loadN key D (at_ : Int) e size) ∧ In w' base b (readsD D (at_ : Int) size) (nn + size) ∧ PenAt w' g b key boot seq ∧ RingAt w' r g at_ size e (loadN key D (at_ : Int) e size).length ∧ PX [r] base W w' := by
  have HST := Lib.hid (c_rStart h hI hP hrb (Ne.symm hrg) e)
  have hle := hI.le
  have hS1 := hI.bd.hi
  have hglt := hP.lt
  have hrlt := h.lt
  have HFR := Lib.hid hfr
  clear h hP hI hfr
  go_enter Try.func40, Try.ntmps40
  go_upto_region 3 with (go_at_call 37; (with_reducible refine HST.out.mono ?_); rintro x w1 ⟨rfl, hR1, hI1, hP1, hp1⟩)
  have k2 : w1.cell? ⟨r, 2, none⟩ = some (.int .i64 (size : Int)) := hR1.row.cell 2 rfl
  have hmx : (if (size : Int) < 0 then (0 : Int) else (size : Int)) = (size : Int) := if_neg (by omega)
  clear HST
  go_wp2_with fail
  go_loopw [5, 19] (fun s5 s19 wr => ∃ i : Nat, i ≤ size ∧ s19 = .int .i64 (i : Int) ∧ OwnM wr base W.heap.size s5 (loadN key D (at_ : Int) e i) ∧ In wr base b (readsD D (at_ : Int) i) (nn + i) ∧ PenAt wr g b key boot seq ∧ RingAt wr r g at_ size e 0 ∧ PX [r] base W wr) (fun _ s19 _ => (size - intOf s19).toNat)
  case atStart => exact ⟨0, by omega, rfl, OwnM.nil_ _ _ _, hI1, hP1, hR1, hp1⟩
  case round =>
    obtain ⟨i, hi, rfl, ho5, hIr, hPr, hRr, hpr⟩ := hrel
    clear hI1 hP1 hR1 hp1 k2 hmx
    obtain ⟨A5, c5, rfl⟩ := ho5.form
    by_cases hend : i < size
    · have hi2 : (i : Int) < (size : Int) := by omega
      obtain ⟨q, hq⟩ : ∃ q : Int, (at_ : Int) + (i : Int) = q := ⟨_, rfl⟩
      have hwq : IntKind.i64.wrap q = q := IntWalk.i64_in _ (by omega)
      have hrd := fun W (hP : PenAt W g b key boot seq) (hI : In W base b (readsD D (at_ : Int) i) (nn + i)) => p_read hP hI (by omega) (HFR.out.reads _ i).goes q (wf_i64 (by omega) (by omega))
      have hns : ∀ t, openL key (D.at_ D.now ((at_ : Int) + (i : Int))) = some t → recA key D (at_ : Int) e i = recN t e i := fun t ht => recA_some ht
      have hnn := @recA_none key D (at_ : Int) e i
      have hrs : readsD D (at_ : Int) (i + 1) = (readsD D (at_ : Int) i).read q := by rw [← hq]; rfl
      simp only [readsD_at] at hrd
      rw [hq] at hns hnn
      have HNS := Lib.hid hns
      have HNN := Lib.hid hnn
      have HRS := Lib.hid hrs
      have HRD := Lib.hid hrd
      have hbl := at_len hS1 q
      have HBL := Lib.hid hbl
      clear hns hnn hrs hrd hbl
      generalize D.at_ D.now q = bs at *
      obtain ⟨xs, hxs⟩ : ∃ xs, opP key bs = xs := ⟨_, rfl⟩
      have HXS := Lib.hid hxs
      rw [hxs] at HRD
      clear hxs
      obtain ⟨ok, hok⟩ : ∃ ok, (openL key bs).isSome = ok := ⟨_, rfl⟩
      have HOK := Lib.hid hok
      rw [hok] at HRD
      clear hok
      obtain ⟨nx, hnx⟩ : ∃ nx, xs.length = nx := ⟨_, rfl⟩
      have HNX := Lib.hid hnx
      have k0 : wr.drew.cell? ⟨r, 0, none⟩ = some (.pointer (some ⟨g, 0, none⟩)) := hRr.row.cell 0 rfl
      have k1 : wr.drew.cell? ⟨r, 1, none⟩ = some (.int .i64 (at_ : Int)) := hRr.row.cell 1 rfl
      have hlel := loadN_le key D (at_ : Int) e i
      clear hnx
      go_upto_region 6 with fail
      (refine wp_region_linN (KpP) (KpP) (wayKpP) (wayKpP) (fun _ _ h => h) (.free 0 (.free 1 (.free 2 (.hot 3 (.free 4 (.free 5 (.free 6 (.hot 7 (.free 8 (.free 9 (.op 10 [(3, 10), (9, 10), (7, 9)] [] [] (.free 11 (.free 12 (.free 13 (.free 14 (.free 15 .nil)))))))))))))))) rfl (by kernel_rfl) (by kernel_rfl) (fun _ _ _ _ _ h => h) ?_; (first | (apply linN_free; (simp only [List.getElem?_toArray, List.getElem?_cons_succ, List.getElem?_cons_zero]; rfl); (rfl); (intro w'; (first | (go_simp; done) | (go_simp; with_reducible rfl) | (go_simp; go_bits; with_reducible rfl) | (go_simp; go_bits; done))); try simp only [Act.put, List.setIfInBounds_toArray, List.set_cons_zero, List.set_cons_succ]) | (apply linN_freeSkip; (simp only [List.getElem?_toArray, List.getElem?_cons_succ, List.getElem?_cons_zero]; rfl); (rfl); try simp only [Act.put, List.setIfInBounds_toArray, List.set_cons_zero, List.set_cons_succ])); (first | (apply linN_free; (simp only [List.getElem?_toArray, List.getElem?_cons_succ, List.getElem?_cons_zero]; rfl); (rfl); (intro w'; (first | (go_simp; done) | (go_simp; with_reducible rfl) | (go_simp; go_bits; with_reducible rfl) | (go_simp; go_bits; done))); try simp only [Act.put, List.setIfInBounds_toArray, List.set_cons_zero, List.set_cons_succ]) | (apply linN_freeSkip; (simp only [List.getElem?_toArray, List.getElem?_cons_succ, List.getElem?_cons_zero]; rfl); (rfl); try simp only [Act.put, List.setIfInBounds_toArray, List.set_cons_zero, List.set_cons_succ])); (first | (apply linN_free; (simp only [List.getElem?_toArray, List.getElem?_cons_succ, List.getElem?_cons_zero]; rfl); (rfl); (intro w'; (first | (go_simp; done) | (go_simp; with_reducible rfl) | (go_simp; go_bits; with_reducible rfl) | (go_simp; go_bits; done))); try simp only [Act.put, List.setIfInBounds_toArray, List.set_cons_zero, List.set_cons_succ]) | (apply linN_freeSkip; (simp only [List.getElem?_toArray, List.getElem?_cons_succ, List.getElem?_cons_zero]; rfl); (rfl); try simp only [Act.put, List.setIfInBounds_toArray, List.set_cons_zero, List.set_cons_succ])); (first | (apply linN_hot; (simp only [List.getElem?_toArray, List.getElem?_cons_succ, List.getElem?_cons_zero]; rfl); (rfl); (intro w' hb'; (try have k_k0 := kpP_cell hb' k0); (try have k_k1 := kpP_cell hb' k1); (first | (go_simp; done) | (go_simp; with_reducible rfl) | (go_simp; go_bits; with_reducible rfl) | (go_simp; go_bits; done))); try simp only [Act.put, List.setIfInBounds_toArray, List.set_cons_zero, List.set_cons_succ]) | (apply linN_hotSkip; (simp only [List.getElem?_toArray, List.getElem?_cons_succ, List.getElem?_cons_zero]; rfl); (rfl); try simp only [Act.put, List.setIfInBounds_toArray, List.set_cons_zero, List.set_cons_succ])); (first | (apply linN_free; (simp only [List.getElem?_toArray, List.getElem?_cons_succ, List.getElem?_cons_zero]; rfl); (rfl); (intro w'; (first | (go_simp; done) | (go_simp; with_reducible rfl) | (go_simp; go_bits; with_reducible rfl) | (go_simp; go_bits; done))); try simp only [Act.put, List.setIfInBounds_toArray, List.set_cons_zero, List.set_cons_succ]) | (apply linN_freeSkip; (simp only [List.getElem?_toArray, List.getElem?_cons_succ, List.getElem?_cons_zero]; rfl); (rfl); try simp only [Act.put, List.setIfInBounds_toArray, List.set_cons_zero, List.set_cons_succ])); (first | (apply linN_free; (simp only [List.getElem?_toArray, List.getElem?_cons_succ, List.getElem?_cons_zero]; rfl); (rfl); (intro w'; (first | (go_simp; done) | (go_simp; with_reducible rfl) | (go_simp; go_bits; with_reducible rfl) | (go_simp; go_bits; done))); try simp only [Act.put, List.setIfInBounds_toArray, List.set_cons_zero, List.set_cons_succ]) | (apply linN_freeSkip; (simp only [List.getElem?_toArray, List.getElem?_cons_succ, List.getElem?_cons_zero]; rfl); (rfl); try simp only [Act.put, List.setIfInBounds_toArray, List.set_cons_zero, List.set_cons_succ])); (first | (apply linN_free; (simp only [List.getElem?_toArray, List.getElem?_cons_succ, List.getElem?_cons_zero]; rfl); (rfl); (intro w'; (first | (go_simp; done) | (go_simp; with_reducible rfl) | (go_simp; go_bits; with_reducible rfl) | (go_simp; go_bits; done))); try simp only [Act.put, List.setIfInBounds_toArray, List.set_cons_zero, List.set_cons_succ]) | (apply linN_freeSkip; (simp only [List.getElem?_toArray, List.getElem?_cons_succ, List.getElem?_cons_zero]; rfl); (rfl); try simp only [Act.put, List.setIfInBounds_toArray, List.set_cons_zero, List.set_cons_succ])); (first | (apply linN_hot; (simp only [List.getElem?_toArray, List.getElem?_cons_succ, List.getElem?_cons_zero]; rfl); (rfl); (intro w' hb'; (try have k_k0 := kpP_cell hb' k0); (try have k_k1 := kpP_cell hb' k1); (first | (go_simp; done) | (go_simp; with_reducible rfl) | (go_simp; go_bits; with_reducible rfl) | (go_simp; go_bits; done))); try simp only [Act.put, List.setIfInBounds_toArray, List.set_cons_zero, List.set_cons_succ]) | (apply linN_hotSkip; (simp only [List.getElem?_toArray, List.getElem?_cons_succ, List.getElem?_cons_zero]; rfl); (rfl); try simp only [Act.put, List.setIfInBounds_toArray, List.set_cons_zero, List.set_cons_succ])); (first | (apply linN_free; (simp only [List.getElem?_toArray, List.getElem?_cons_succ, List.getElem?_cons_zero]; rfl); (rfl); (intro w'; (first | (go_simp; done) | (go_simp; with_reducible rfl) | (go_simp; go_bits; with_reducible rfl) | (go_simp; go_bits; done))); try simp only [Act.put, List.setIfInBounds_toArray, List.set_cons_zero, List.set_cons_succ]) | (apply linN_freeSkip; (simp only [List.getElem?_toArray, List.getElem?_cons_succ, List.getElem?_cons_zero]; rfl); (rfl); try simp only [Act.put, List.setIfInBounds_toArray, List.set_cons_zero, List.set_cons_succ])); (first | (apply linN_free; (simp only [List.getElem?_toArray, List.getElem?_cons_succ, List.getElem?_cons_zero]; rfl); (rfl); (intro w'; (first | (go_simp; done) | (go_simp; with_reducible rfl) | (go_simp; go_bits; with_reducible rfl) | (go_simp; go_bits; done))); try simp only [Act.put, List.setIfInBounds_toArray, List.set_cons_zero, List.set_cons_succ]) | (apply linN_freeSkip; (simp only [List.getElem?_toArray, List.getElem?_cons_succ, List.getElem?_cons_zero]; rfl); (rfl); try simp only [Act.put, List.setIfInBounds_toArray, List.set_cons_zero, List.set_cons_succ])); (first | (apply linN_pass (wayKpP) (wayKpP); (simp only [List.getElem?_toArray, List.getElem?_cons_succ, List.getElem?_cons_zero]; rfl); (rfl); try simp only [Act.put, List.setIfInBounds_toArray, List.set_cons_zero, List.set_cons_succ]) | (apply linN_op; (simp only [List.getElem?_toArray, List.getElem?_cons_succ, List.getElem?_cons_zero]; rfl); (rfl); intro K hK; (first | (go_simp; (first | (go_at_call 20; (with_reducible refine (HRD.out _ (hPr.below (below_drew (Below.refl _ _)) hPr.lt) (hIr.below (below_drew (Below.refl _ _)))).mono ?_); rintro e w1 ⟨v1, rfl, ho1, hI1, hd1⟩) | skip))); refine hK _ _ ?_ ?_; (exact trivial); clear hK; try simp only [Act.put, List.setIfInBounds_toArray, List.set_cons_zero, List.set_cons_succ])); (first | (apply linN_free; (simp only [List.getElem?_toArray, List.getElem?_cons_succ, List.getElem?_cons_zero]; rfl); (rfl); (intro w'; (first | (go_simp; done) | (go_simp; with_reducible rfl) | (go_simp; go_bits; with_reducible rfl) | (go_simp; go_bits; done))); try simp only [Act.put, List.setIfInBounds_toArray, List.set_cons_zero, List.set_cons_succ]) | (apply linN_freeSkip; (simp only [List.getElem?_toArray, List.getElem?_cons_succ, List.getElem?_cons_zero]; rfl); (rfl); try simp only [Act.put, List.setIfInBounds_toArray, List.set_cons_zero, List.set_cons_succ])); (first | (apply linN_free; (simp only [List.getElem?_toArray, List.getElem?_cons_succ, List.getElem?_cons_zero]; rfl); (rfl); (intro w'; (first | (go_simp; done) | (go_simp; with_reducible rfl) | (go_simp; go_bits; with_reducible rfl) | (go_simp; go_bits; done))); try simp only [Act.put, List.setIfInBounds_toArray, List.set_cons_zero, List.set_cons_succ]) | (apply linN_freeSkip; (simp only [List.getElem?_toArray, List.getElem?_cons_succ, List.getElem?_cons_zero]; rfl); (rfl); try simp only [Act.put, List.setIfInBounds_toArray, List.set_cons_zero, List.set_cons_succ])); (first | (apply linN_free; (simp only [List.getElem?_toArray, List.getElem?_cons_succ, List.getElem?_cons_zero]; rfl); (rfl); (intro w'; (first | (go_simp; done) | (go_simp; with_reducible rfl) | (go_simp; go_bits; with_reducible rfl) | (go_simp; go_bits; done))); try simp only [Act.put, List.setIfInBounds_toArray, List.set_cons_zero, List.set_cons_succ]) | (apply linN_freeSkip; (simp only [List.getElem?_toArray, List.getElem?_cons_succ, List.getElem?_cons_zero]; rfl); (rfl); try simp only [Act.put, List.setIfInBounds_toArray, List.set_cons_zero, List.set_cons_succ])); (first | (apply linN_free; (simp only [List.getElem?_toArray, List.getElem?_cons_succ, List.getElem?_cons_zero]; rfl); (rfl); (intro w'; (first | (go_simp; done) | (go_simp; with_reducible rfl) | (go_simp; go_bits; with_reducible rfl) | (go_simp; go_bits; done))); try simp only [Act.put, List.setIfInBounds_toArray, List.set_cons_zero, List.set_cons_succ]) | (apply linN_freeSkip; (simp only [List.getElem?_toArray, List.getElem?_cons_succ, List.getElem?_cons_zero]; rfl); (rfl); try simp only [Act.put, List.setIfInBounds_toArray, List.set_cons_zero, List.set_cons_succ])); (first | (apply linN_free; (simp only [List.getElem?_toArray, List.getElem?_cons_succ, List.getElem?_cons_zero]; rfl); (rfl); (intro w'; (first | (go_simp; done) | (go_simp; with_reducible rfl) | (go_simp; go_bits; with_reducible rfl) | (go_simp; go_bits; done))); try simp only [Act.put, List.setIfInBounds_toArray, List.set_cons_zero, List.set_cons_succ]) | (apply linN_freeSkip; (simp only [List.getElem?_toArray, List.getElem?_cons_succ, List.getElem?_cons_zero]; rfl); (rfl); try simp only [Act.put, List.setIfInBounds_toArray, List.set_cons_zero, List.set_cons_succ])); refine linN_end ?_)
      have hdd : DR dTy base wr w1 := (DR.of_below (S := dTy) (below_drew (Below.refl wr.heap.size wr)) hIr.le).trans hd1
      have ho51 := ho5.dr hdd
      have hP1 := hPr.dr hdd
      have hR1 := hRr.dr hdd
      have hp1 : PX [r] base W w1 := hpr.trans (PX.of_pr (PR.of_dr r hdd) (by simp))
      rw [← HRS.out] at hI1
      obtain ⟨A1, d1, rfl, ld1, ld2, hr1⟩ := ho1.form
      rw [HNX.out] at hr1 ld1 ⊢
      have hi0 : i ≤ 1000000 := by omega
      have HHD := Lib.hid (c_rhead e i hi0 w1)
      have hl12 := rhL_length e i
      have HL12 := Lib.hid hl12
      have hle1 := hI1.le
      clear HRD k0 k1 hdd hd1 ho5 hPr hRr hpr hIr ho1 hq hwq HRS hi0
      have hWle : W.heap.size ≤ w1.heap.size := hp1.1.size
      cases ok with
      | false =>
        have ho : openL key bs = none := by have h1 := HOK.out; cases h : openL key bs with
          | none => rfl
          | some x => rw [h] at h1; cases h1
        have hL := loadN_no (HNN.out ho)
        have hx0 : xs = [] := by rw [← HXS.out]; exact opP_none ho
        have HCN := Lib.hid (fun w A d (h1 : RdB w A1 nx xs) (h2 : RdB w A 12 (rhL e i)) => c_cutNo w A1 A nx 12 d1 d xs (rhL e i) h1 h2 ld1 (by omega) (by have := HNX.out; rw [hx0] at this; simp at this; rw [← this]; simp))
        clear hx0 hl12
        go_upto_region 8 with (first | (first | (go_at_call 74; (with_reducible refine HHD.out.mono ?_); rintro x w2 ⟨v2, rfl, ho2, hb2⟩; (obtain ⟨A2, d2, rfl, ld2, -, hr2⟩ := ho2.form); (rw [HL12.out] at hr2 ld2 ⊢))) | (first | (go_at_call 75; (with_reducible refine (HCN.out w2 A2 d2 (hr1.below hb2 (Nat.le_refl _)) hr2).mono ?_); rintro x w' ⟨rfl, rfl⟩)))
        have hI2 := hI1.below hb2
        have hP2 := hP1.below hb2 hP1.lt
        have hR2 := hR1.below hb2 hR1.lt
        have hp2 : PX [r] base W w2 := hp1.trans (PX.of_below hb2 hle1)
        have ho52 := ho51.below hb2 hle1
        have H := Lib.hid (And.intro ho52 (And.intro hI2 (And.intro hP2 (And.intro hR2 hp2))))
        clear hI1 hP1 hR1 hp1 ho51 hI2 hP2 hR2 hp2 ho52 hr1 hr2 ho2 hb2
        go_wp2_with fail
        go_roundw
        case rel => exact ⟨i + 1, by omega, by go_num, by rw [hL]; exact H.out.1, H.out.2.1, H.out.2.2.1, H.out.2.2.2.1, H.out.2.2.2.2⟩
        case measure => simp [intOf]; omega
      | true =>
        have ho : openL key bs = some xs := by
          have h1 := HOK.out
          have h2 := HXS.out
          cases h : openL key bs with
          | none => rw [h] at h1; cases h1
          | some x => rw [opP_some h] at h2; rw [h2]
        have hrec := HNS.out xs ho
        have hxl := openL_len ho
        have hxm : nx ≤ 60000 := by have h1 := HNX.out; have h2 := HBL.out; omega
        clear hxl
        by_cases hm : 12 ≤ nx ∧ xs.take 12 = rhL e i
        · have hrx : recA key D (at_ : Int) e i = some (xs.drop 12) := by rw [hrec]; unfold recN; rw [HNX.out]; exact if_pos hm
          have HCY := Lib.hid (fun w A d (h1 : RdB w A1 nx xs) (h2 : RdB w A 12 (rhL e i)) => c_cutYes w A1 A nx 12 d1 d xs (rhL e i) h1 h2 ld1 (by omega) hm.1 hm.2)
          have hxd : (xs.drop 12).length = nx - 12 := by rw [List.length_drop, HNX.out]
          have HXD := Lib.hid hxd
          clear hl12 hm hrec hxd
          go_upto_region 8 with (first | (first | (go_at_call 74; (with_reducible refine HHD.out.mono ?_); rintro x w2 ⟨v2, rfl, ho2, hb2⟩; (obtain ⟨A2, d2, rfl, ld2, -, hr2⟩ := ho2.form); (rw [HL12.out] at hr2 ld2 ⊢))) | (first | (go_at_call 75; (with_reducible refine (HCY.out w2 A2 d2 (hr1.below hb2 (Nat.le_refl _)) hr2).mono ?_); rintro x w' ⟨⟨A3, rfl, hr3⟩, rfl⟩)))
          by_cases hgap : (loadN key D (at_ : Int) e i).length = i
          · have hL := loadN_yes hrx hgap
            have HLL := Lib.hid hL
            rw [hgap] at ho51 ⊢
            have hgl : (loadN key D (at_ : Int) e i).length ≤ 1000000 := by omega
            go_wp2_with (first | (first | (go_at_call 63; (with_reducible refine (c_clone A3 _ _ _ w2 hr3 (by omega)).mono ?_); rintro x w3 ⟨v3, rfl, ho3, hb3⟩; (obtain ⟨A4, d4, rfl, -, -, -⟩ := ho3.form); (rw [HXD.out] at ho3 ⊢); have ho53 := (ho51.below hb2 hle1).below hb3 (Nat.le_trans hle1 hb2.size); have hsz3 := Nat.le_trans hWle (Nat.le_trans hb2.size hb3.size))) | (first | (at_builtin; refine wpl_pushM (B := W.heap.size) (base := base) rfl rfl ho53 (BytesAt.of_own (base := base) ho3) rfl rfl hsz3 hle (by omega) ?_; intro v5 w5 ho5 hf5 hb5; try simp only [Act.put])))
            have hI2 := (hI1.below hb2).below hb3
            have hP2 := (hP1.below hb2 hP1.lt).below hb3 (hP1.below hb2 hP1.lt).lt
            have hR2 := (hR1.below hb2 hR1.lt).below hb3 (hR1.below hb2 hR1.lt).lt
            have hle2 : base ≤ w2.heap.size := Nat.le_trans hle1 hb2.size
            have hp2 : PX [r] base W w3 := (hp1.trans (PX.of_below hb2 hle1)).trans (PX.of_below hb3 hle2)
            have hI5 := hI2.frT2 hf5 (by decide)
            have hP5 : PenAt w5 g b key boot seq := ⟨hf5.row hP2.row (by decide), hP2.kl, hP2.bl⟩
            have hR5 : RingAt w5 r g at_ size e 0 := ⟨hf5.row hR2.row (by decide)⟩
            have hp5 : PX [r] base W w5 := hp2.step hf5.dr.below (fun k hk => hb5.block k hk)
            go_roundw
            case rel => exact ⟨i + 1, by omega, by go_num, by rw [HLL.out]; exact ho5, hI5, hP5, hR5, hp5⟩
            case measure => simp [intOf]; omega
          · have hL := loadN_gap hgap
            have hgi : ((((loadN key D (at_ : Int) e i).length : Nat) : Int) == (i : Int)) = false := by simp; omega
            clear hgap
            have hI2 := hI1.below hb2
            have hP2 := hP1.below hb2 hP1.lt
            have hR2 := hR1.below hb2 hR1.lt
            have hp2 : PX [r] base W w2 := hp1.trans (PX.of_below hb2 hle1)
            have ho52 := ho51.below hb2 hle1
            have H := Lib.hid (And.intro ho52 (And.intro hI2 (And.intro hP2 (And.intro hR2 hp2))))
            clear hI1 hP1 hR1 hp1 ho51 hI2 hP2 hR2 hp2 ho52 hr1 hr2 ho2 hb2
            go_wp2_with fail
            go_roundw
            case rel => exact ⟨i + 1, by omega, by go_num, by rw [hL]; exact H.out.1, H.out.2.1, H.out.2.2.1, H.out.2.2.2.1, H.out.2.2.2.2⟩
            case measure => simp [intOf]; omega
        · have hrx : recA key D (at_ : Int) e i = none := by rw [hrec]; unfold recN; rw [HNX.out]; exact if_neg hm
          have hL := loadN_no hrx
          have HCN := Lib.hid (fun w A d (h1 : RdB w A1 nx xs) (h2 : RdB w A 12 (rhL e i)) => c_cutNo w A1 A nx 12 d1 d xs (rhL e i) h1 h2 ld1 (by omega) (by
            by_cases h : 12 ≤ nx
            · have h2 : ¬ xs.take 12 = rhL e i := fun h3 => hm ⟨h, h3⟩
              simp [h2]
            · simp [h]))
          clear hl12 hm hrec
          go_upto_region 8 with (first | (first | (go_at_call 74; (with_reducible refine HHD.out.mono ?_); rintro x w2 ⟨v2, rfl, ho2, hb2⟩; (obtain ⟨A2, d2, rfl, ld2, -, hr2⟩ := ho2.form); (rw [HL12.out] at hr2 ld2 ⊢))) | (first | (go_at_call 75; (with_reducible refine (HCN.out w2 A2 d2 (hr1.below hb2 (Nat.le_refl _)) hr2).mono ?_); rintro x w' ⟨rfl, rfl⟩)))
          have hI2 := hI1.below hb2
          have hP2 := hP1.below hb2 hP1.lt
          have hR2 := hR1.below hb2 hR1.lt
          have hp2 : PX [r] base W w2 := hp1.trans (PX.of_below hb2 hle1)
          have ho52 := ho51.below hb2 hle1
          have H := Lib.hid (And.intro ho52 (And.intro hI2 (And.intro hP2 (And.intro hR2 hp2))))
          clear hI1 hP1 hR1 hp1 ho51 hI2 hP2 hR2 hp2 ho52 hr1 hr2 ho2 hb2
          go_wp2_with fail
          go_roundw
          case rel => exact ⟨i + 1, by omega, by go_num, by rw [hL]; exact H.out.1, H.out.2.1, H.out.2.2.1, H.out.2.2.2.1, H.out.2.2.2.2⟩
          case measure => simp [intOf]; omega
    · obtain rfl : i = size := by omega
      have c4 := hRr.row.cell 4 rfl
      have z4 := hRr.row.free 4
      obtain ⟨ll, hll⟩ : ∃ ll, (loadN key D (at_ : Int) e i).length = ll := ⟨_, rfl⟩
      rw [hll] at ho5 ⊢
      have hI6 := hIr.set (j := 4) hRr.row (.int .i64 (ll : Int)) (by decide) hrb
      have hP6 := hPr.set (j := 4) (.int .i64 (ll : Int)) (Ne.symm hrg)
      have hR6 : RingAt (wr.setCell ⟨r, 4, none⟩ (.int .i64 (ll : Int))) r g at_ i e ll := ⟨hRr.row.set 4 (.int .i64 (ll : Int))⟩
      have hp6 := hpr.trans (PX.set (X := [r]) (j := 4) (v := .int .i64 (ll : Int)) hrb (by simp))
      have hset : FR [108] [] base wr (wr.setCell ⟨r, 4, none⟩ (.int .i64 (ll : Int))) := FR.of_upd (upd_cell hRr.row _) hRr.row (by simp) hrb
      have ho6 : OwnM (wr.setCell ⟨r, 4, none⟩ (.int .i64 (ll : Int))) base W.heap.size (.slice A5 ll c5) (loadN key D (at_ : Int) e i) := ho5.drS hset.dr (by decide) (by decide)
      have H := Lib.hid (And.intro ho6 (And.intro hI6 (And.intro hP6 (And.intro hR6 hp6))))
      clear hI6 hP6 hR6 hp6 hset ho6 hRr hPr hIr hpr ho5
      go_wp2_with fail
      go_ret
      refine ⟨_, rfl, H.out.1, H.out.2.1, H.out.2.2.1, ?_, H.out.2.2.2.2⟩
      rw [hll]
      exact H.out.2.2.2.1
end Go.Proofs.Ytmdmhjcdaejlkaa

/- The log: plain laws. -/
set_option linter.unusedVariables false
namespace Go.Proofs.Ytmdmhjcdaejlkaa

theorem leP_injR {a b k : Nat} (ha : a < 256 ^ k) (hb : b < 256 ^ k) (h : leP a k = leP b k) : a = b := by
  have h1 := leN_leP a k
  have h2 := leN_leP b k
  rw [h, h2, Nat.mod_eq_of_lt ha, Nat.mod_eq_of_lt hb] at h1
  exact h1.symm
theorem rhL_inj {a b i j : Nat} (ha : a < 18446744073709551616) (hb : b < 18446744073709551616) (hi : i < 4294967296) (hj : j < 4294967296) (h : rhL a i = rhL b j) : a = b ∧ i = j := by
  unfold rhL at h
  obtain ⟨h1, h2⟩ := List.append_inj h (by rw [leP_length, leP_length])
  exact ⟨leP_injR (k := 8) (by omega) (by omega) h1, leP_injR (k := 4) (by omega) (by omega) h2⟩
theorem recN_rh {a e n i : Nat} (ha : a < 18446744073709551616) (he : e < 18446744073709551616) (hn : n < 4294967296) (hi : i < 4294967296) (rec : List UInt8) : recN (rhL a n ++ rec) e i = if a = e ∧ n = i then some rec else none := by
  have hl := rhL_length a n
  have ht : (rhL a n ++ rec).take 12 = rhL a n := by rw [List.take_append_of_le_length (by omega), List.take_of_length_le (by omega)]
  have hd : (rhL a n ++ rec).drop 12 = rec := by rw [List.drop_append_of_le_length (by omega), List.drop_of_length_le (by omega), List.nil_append]
  unfold recN
  rw [ht, hd, List.length_append, hl]
  by_cases h : a = e ∧ n = i
  · rw [if_pos h, if_pos ⟨by omega, by rw [h.1, h.2]⟩]
  · rw [if_neg h, if_neg (fun q => h (rhL_inj ha he hn hi q.2))]
/-- the text that stands at the i-th place -/
def txA (key : List UInt8) (D : Dk) (at_ i : Nat) : Option (List UInt8) := openL key (D.at_ D.now ((at_ : Int) + (i : Int)))
theorem recA_tx (key : List UInt8) (D : Dk) (at_ e i : Nat) : recA key D (at_ : Int) e i = (txA key D at_ i).bind fun t => recN t e i := rfl
theorem txA_reads (key : List UInt8) (D : Dk) (a : Int) (n at_ i : Nat) : txA key (readsD D a n) at_ i = txA key D at_ i := by unfold txA; rw [readsD_at]
theorem add_size {D : Dk} {key : List UInt8} {boot seq at_ n epoch : Nat} {rec : List UInt8} : (addWr D key boot seq at_ n epoch rec).flush.size = D.size := by unfold addWr; exact write_size _ _ _
theorem add_blocks {D : Dk} {key : List UInt8} {boot seq at_ n epoch : Nat} {rec : List UInt8} : (addWr D key boot seq at_ n epoch rec).flush.blocks = D.blocks := by unfold addWr; exact write_blocks _ _ _
theorem add_has {D : Dk} {key : List UInt8} {boot seq at_ n epoch : Nat} {rec : List UInt8} (q : Int) : (addWr D key boot seq at_ n epoch rec).flush.has q = D.has q := by unfold Dk.has; rw [add_blocks]
theorem add_free {D : Dk} {key : List UInt8} {boot seq at_ n epoch : Nat} {rec : List UInt8} (h : Free D) : Free (addWr D key boot seq at_ n epoch rec).flush := (h.write _ _).flush
theorem txA_add {D : Dk} {key : List UInt8} {boot seq at_ n epoch s : Nat} {rec : List UInt8} (hs : D.size = (s : Int)) (hs2 : s ≤ 60000) (hf : fitsB (12 + rec.length) D.size = true) (hh : D.has ((at_ + n : Nat) : Int) = true) (i : Nat) :
    txA key (addWr D key boot seq at_ n epoch rec).flush at_ i = if i = n then some (rhL epoch n ++ rec) else txA key D at_ i := by
  have hfit := (fitsB_iff _ _).1 hf
  rw [hs] at hfit
  have hlr : (rhL epoch n ++ rec).length + 22 ≤ s := by rw [List.length_append, rhL_length]; omega
  have hl : (sealL key boot seq (rhL epoch n ++ rec) s).length = s := sealL_length hlr
  unfold txA addWr
  rw [flush_at, hs, Int.toNat_natCast]
  by_cases h : i = n
  · subst h
    rw [if_pos rfl, show (at_ : Int) + (i : Int) = ((at_ + i : Nat) : Int) by omega, seal_at hh hs hl]
    exact openL_sealL hlr (by omega)
  · rw [if_neg h, write_at_ne (by omega)]
theorem txA_fresh {key : List UInt8} {bl : Int} {s : Nat} (hs : s ≤ 60000) (hb : openL key (List.replicate s 0) = none) (at_ i : Nat) : txA key (dkNew bl s) at_ i = none := by
  unfold txA
  rcases fresh_at (bl := bl) hs ((at_ : Int) + (i : Int)) with h | h
  · rw [h]; exact openL_nil key
  · rw [h]; exact hb
/-- what stands in a row, and nothing of the epoch behind it, is what is loaded -/
theorem load_pre {key : List UInt8} {D : Dk} {at_ e : Nat} {l : List (List UInt8)} (h1 : ∀ j x, l[j]? = some x → recA key D (at_ : Int) e j = some x) (h2 : recA key D (at_ : Int) e l.length = none) (size : Nat) :
    loadN key D (at_ : Int) e size = l.take size := by
  induction size with
  | zero => rfl
  | succ i ih =>
    rcases Nat.lt_trichotomy i l.length with hi | hi | hi
    · have hx : l[i]? = some l[i] := List.getElem?_eq_getElem hi
      rw [loadN_yes (h1 i _ hx) (by rw [ih, List.length_take]; omega), ih, List.take_succ_eq_append_getElem hi]
    · subst hi
      rw [loadN_no h2, ih, List.take_of_length_le (Nat.le_refl _), List.take_of_length_le (by omega)]
    · rw [loadN_gap (by rw [ih, List.length_take]; omega), ih, List.take_of_length_le (by omega), List.take_of_length_le (by omega)]
theorem load_full {key : List UInt8} {D : Dk} {at_ e : Nat} {l : List (List UInt8)} (h1 : ∀ j x, l[j]? = some x → recA key D (at_ : Int) e j = some x) (size : Nat) (hs : size ≤ l.length) : loadN key D (at_ : Int) e size = l.take size := by
  induction size with
  | zero => rfl
  | succ i ih =>
    have hi : i < l.length := by omega
    have hx : l[i]? = some l[i] := List.getElem?_eq_getElem hi
    rw [loadN_yes (h1 i _ hx) (by rw [ih (by omega), List.length_take]; omega), ih (by omega), List.take_succ_eq_append_getElem hi]
end Go.Proofs.Ytmdmhjcdaejlkaa
