/- The walks of a quarter round, the program's and the reference's. -/
import Derived.Test.YtmdmhjcdaejlkaaProg
import Derived.Test.YtmdmhjcdaejlkaaSealP
import Derived.Test.YtmdmhjcdaejlkaaLe
import Derived.Test.YtmdmhjcdaejlkaaArr
import Derived.Test.YtmdmhjcdaejlkaaGA
import Derived.Deep.Cut
import Derived.Lib.Hide
import Derived.Test.YtmdmhjcdaejlkaaGC
import Derived.Test.YtmdmhjcdaejlkaaInts
import Derived.Test.YtmdmhjcdaejlkaaClone
set_option linter.unusedVariables false
set_option linter.unusedSimpArgs false
namespace Go.Proofs.Ytmdmhjcdaejlkaa
open Go.RowKit

theorem c_rotl (x : Int) (k : Int) (n : Nat) (hn : (n : Int) = k) (hk : k = 16 ∨ k = 12 ∨ k = 8 ∨ k = 7) (w : World) :
    Calls Try.prog 104 #[.int .u32 x, .int .i64 k] w fun e w' => e = .returned (.int .u32 (rotW x n)) ∧ w = w' := by
  unfold rotW
  have h1 : bits .and .u64 16 31 = 16 := by decide
  have h2 : bits .and .u64 12 31 = 12 := by decide
  have h3 : bits .and .u64 8 31 = 8 := by decide
  have h4 : bits .and .u64 7 31 = 7 := by decide
  rcases hk with rfl | rfl | rfl | rfl
  · obtain rfl : n = 16 := by omega
    clear hn
    go_enter Try.func104, Try.ntmps104
    go_wp2
    go_ret
    exact ⟨rfl, rfl⟩
  · obtain rfl : n = 12 := by omega
    clear hn
    go_enter Try.func104, Try.ntmps104
    go_wp2
    go_ret
    exact ⟨rfl, rfl⟩
  · obtain rfl : n = 8 := by omega
    clear hn
    go_enter Try.func104, Try.ntmps104
    go_wp2
    go_ret
    exact ⟨rfl, rfl⟩
  · obtain rfl : n = 7 := by omega
    clear hn
    go_enter Try.func104, Try.ntmps104
    go_wp2
    go_ret
    exact ⟨rfl, rfl⟩
theorem c_rLeft (x : Int) (k : Int) (n : Nat) (hn : (n : Int) = k) (hk : k = 16 ∨ k = 12 ∨ k = 8 ∨ k = 7) (w : World) :
    Calls Try.prog 103 #[.int .u32 x, .int .i64 k] w fun e w' => e = .returned (.int .u32 (rotW x n)) ∧ w = w' := by
  unfold rotW
  rcases hk with rfl | rfl | rfl | rfl
  · obtain rfl : n = 16 := by omega
    clear hn
    go_enter Try.func103, Try.ntmps103
    go_wp2
    go_ret
    exact ⟨rfl, rfl⟩
  · obtain rfl : n = 12 := by omega
    clear hn
    go_enter Try.func103, Try.ntmps103
    go_wp2
    go_ret
    exact ⟨rfl, rfl⟩
  · obtain rfl : n = 8 := by omega
    clear hn
    go_enter Try.func103, Try.ntmps103
    go_wp2
    go_ret
    exact ⟨rfl, rfl⟩
  · obtain rfl : n = 7 := by omega
    clear hn
    go_enter Try.func103, Try.ntmps103
    go_wp2
    go_ret
    exact ⟨rfl, rfl⟩
theorem addW_eq (a b : Int) : (a + b) % 4294967296 = addW a b := rfl
theorem xorW_eq (a b : Int) : bits .xor .u32 a b = xorW a b := rfl
/-- what a quarter round answers -/
def qtup (a b c d : Int) : Value := .tuple #[.int .u32 (qA2 a b c d), .int .u32 (qB2 a b c d), .int .u32 (qC2 a b c d), .int .u32 (qD2 a b c d)]
set_option maxHeartbeats 1000000 in
set_option maxRecDepth 100000 in
theorem c_round (a b c d : Int) (w : World) :
    Calls Try.prog 102 #[.int .u32 a, .int .u32 b, .int .u32 c, .int .u32 d] w fun e w' => e = .returned (qtup a b c d) ∧ w = w' := by
  have e1 : (a + b) % 4294967296 = qA1 a b c d := rfl
  have e2 : rotW (bits .xor .u32 d (qA1 a b c d)) 16 = qD1 a b c d := rfl
  have e3 : (c + qD1 a b c d) % 4294967296 = qC1 a b c d := rfl
  have e4 : rotW (bits .xor .u32 b (qC1 a b c d)) 12 = qB1 a b c d := rfl
  have e5 : (qA1 a b c d + qB1 a b c d) % 4294967296 = qA2 a b c d := rfl
  have e6 : rotW (bits .xor .u32 (qD1 a b c d) (qA2 a b c d)) 8 = qD2 a b c d := rfl
  have e7 : (qC1 a b c d + qD2 a b c d) % 4294967296 = qC2 a b c d := rfl
  have e8 : rotW (bits .xor .u32 (qB1 a b c d) (qC2 a b c d)) 7 = qB2 a b c d := rfl
  unfold qtup
  generalize qA1 a b c d = A1 at *
  generalize qD1 a b c d = D1 at *
  generalize qC1 a b c d = C1 at *
  generalize qB1 a b c d = B1 at *
  generalize qA2 a b c d = A2 at *
  generalize qD2 a b c d = D2 at *
  generalize qC2 a b c d = C2 at *
  generalize qB2 a b c d = B2 at *
  go_enter Try.func102, Try.ntmps102
  go_wp2_with fail
  refine (c_rotl _ 16 16 rfl (by decide) _).mono ?_
  rintro e w' ⟨rfl, rfl⟩
  rw [e2]
  go_wp2_with fail
  refine (c_rotl _ 12 12 rfl (by decide) _).mono ?_
  rintro e w' ⟨rfl, rfl⟩
  rw [e4]
  go_wp2_with fail
  refine (c_rotl _ 8 8 rfl (by decide) _).mono ?_
  rintro e w' ⟨rfl, rfl⟩
  rw [e6]
  go_wp2_with fail
  refine (c_rotl _ 7 7 rfl (by decide) _).mono ?_
  rintro e w' ⟨rfl, rfl⟩
  rw [e8]
  go_wp2
  exact ⟨rfl, _, by simp [results, Try.results102], rfl, rfl⟩
set_option maxHeartbeats 1000000 in
set_option maxRecDepth 100000 in
theorem c_rRound (a b c d : Int) (w : World) :
    Calls Try.prog 100 #[.int .u32 a, .int .u32 b, .int .u32 c, .int .u32 d] w fun e w' => e = .returned (qtup a b c d) ∧ w = w' := by
  have e1 : (a + b) % 4294967296 = qA1 a b c d := rfl
  have e2 : rotW (bits .xor .u32 d (qA1 a b c d)) 16 = qD1 a b c d := rfl
  have e3 : (c + qD1 a b c d) % 4294967296 = qC1 a b c d := rfl
  have e4 : rotW (bits .xor .u32 b (qC1 a b c d)) 12 = qB1 a b c d := rfl
  have e5 : (qA1 a b c d + qB1 a b c d) % 4294967296 = qA2 a b c d := rfl
  have e6 : rotW (bits .xor .u32 (qD1 a b c d) (qA2 a b c d)) 8 = qD2 a b c d := rfl
  have e7 : (qC1 a b c d + qD2 a b c d) % 4294967296 = qC2 a b c d := rfl
  have e8 : rotW (bits .xor .u32 (qB1 a b c d) (qC2 a b c d)) 7 = qB2 a b c d := rfl
  unfold qtup
  generalize qA1 a b c d = A1 at *
  generalize qD1 a b c d = D1 at *
  generalize qC1 a b c d = C1 at *
  generalize qB1 a b c d = B1 at *
  generalize qA2 a b c d = A2 at *
  generalize qD2 a b c d = D2 at *
  generalize qC2 a b c d = C2 at *
  generalize qB2 a b c d = B2 at *
  go_enter Try.func100, Try.ntmps100
  go_wp2_with fail
  refine (c_rLeft _ 16 16 rfl (by decide) _).mono ?_
  rintro e w' ⟨rfl, rfl⟩
  rw [e2]
  go_wp2_with fail
  refine (c_rLeft _ 12 12 rfl (by decide) _).mono ?_
  rintro e w' ⟨rfl, rfl⟩
  rw [e4]
  go_wp2_with fail
  refine (c_rLeft _ 8 8 rfl (by decide) _).mono ?_
  rintro e w' ⟨rfl, rfl⟩
  rw [e6]
  go_wp2_with fail
  refine (c_rLeft _ 7 7 rfl (by decide) _).mono ?_
  rintro e w' ⟨rfl, rfl⟩
  rw [e8]
  go_wp2
  exact ⟨rfl, _, by simp [results, Try.results100], rfl, rfl⟩
end Go.Proofs.Ytmdmhjcdaejlkaa

/- The walks of a double round, the program's and the reference's. -/
set_option linter.unusedVariables false
set_option linter.unusedSimpArgs false
namespace Go.Proofs.Ytmdmhjcdaejlkaa
open Go.RowKit

def quarterV (q : Nat × Nat × Nat × Nat) : List Value := [.int .i64 (q.1 : Int), .int .i64 (q.2.1 : Int), .int .i64 (q.2.2.1 : Int), .int .i64 (q.2.2.2 : Int)]
def placesV : List Value := quarterL.flatMap quarterV
/-- the rows that are laid before round k of quar.places -/
def plRow (k : Nat) : List Value := (List.range 8).flatMap fun r => if r % 4 < k then quarterV (quarterL.getD r (0, 0, 0, 0)) else List.replicate 4 (.int .i64 0)
theorem plRow_end : plRow 4 = placesV := rfl
theorem placesV_all : placesV.toArray.all (·.oneCell') = true := Array.all_eq_true_iff_forall_mem.2 fun v hv => by
  have hv' : v ∈ placesV := by simpa using hv
  obtain ⟨q, _, hq⟩ := List.mem_flatMap.1 hv'
  simp only [quarterV, List.mem_cons, List.not_mem_nil, or_false] at hq
  rcases hq with rfl | rfl | rfl | rfl <;> rfl
def plMid (k : Nat) : List Value := spl (plRow k) (4 * k) (quarterV (quarterL.getD k (0, 0, 0, 0)))
theorem plMid_next {k : Nat} (hk : k < 4) : spl (plMid k) (4 * (4 + k)) (quarterV (quarterL.getD (4 + k) (0, 0, 0, 0))) = plRow (k + 1) := by
  obtain rfl | rfl | rfl | rfl : k = 0 ∨ k = 1 ∨ k = 2 ∨ k = 3 := by omega
  all_goals rfl
theorem plRow_length (k : Nat) (hk : k ≤ 4) : (plRow k).length = 32 := by
  obtain rfl | rfl | rfl | rfl | rfl : k = 0 ∨ k = 1 ∨ k = 2 ∨ k = 3 ∨ k = 4 := by omega
  all_goals rfl
theorem plMid_length (k : Nat) (hk : k < 4) : (plMid k).length = 32 := by
  obtain rfl | rfl | rfl | rfl : k = 0 ∨ k = 1 ∨ k = 2 ∨ k = 3 := by omega
  all_goals rfl
set_option maxHeartbeats 1000000 in
set_option maxRecDepth 100000 in
theorem c_places (w : World) : Calls Try.prog 101 #[] w fun e w' => e = .returned (.agg placesV.toArray) ∧ Below w.heap.size w w' := by
  go_enter Try.func101, Try.ntmps101
  go_wp2_with fail
  go_loopw [3] (fun s3 wr => ∃ k : Nat, k ≤ 4 ∧ s3 = .int .i64 (k : Int) ∧ Row wr (w.heap.size + 1) (plRow k).toArray 135 ∧ (∃ c : Array Value, c.size = 32 ∧ Row wr w.heap.size c 135) ∧ Below w.heap.size w wr) (fun i _ => (4 - intOf i).toNat)
  case atStart =>
    have r0 := Row.new w (plRow 0).toArray 135
    have r1 := Row.new (w.alloc (.cells (plRow 0).toArray 135)) (plRow 0).toArray 135
    have hs : (w.alloc (.cells (plRow 0).toArray 135)).heap.size = w.heap.size + 1 := by simp
    rw [hs] at r1
    exact ⟨0, by omega, rfl, r1, ⟨_, rfl, r0.alloc _⟩, below_alloc (below_alloc (Below.refl _ _) _) _⟩
  case round =>
    obtain ⟨k, hk, rfl, hr, ⟨c, hc, hr0⟩, hB⟩ := hrel
    by_cases hlt : k < 4
    · have hne : w.heap.size ≠ w.heap.size + 1 := by omega
      obtain rfl | rfl | rfl | rfl : k = 0 ∨ k = 1 ∨ k = 2 ∨ k = 3 := by omega
      all_goals
        go_upto_region 6 with (apply wpl_storeMid; rfl; rfl; rfl; rfl; exact hr; kernel_rfl; decide; (intro v hv; simp at hv; rcases hv with rfl | rfl | rfl | rfl <;> rfl); intro W1 hW1; simp only [Act.put])
        have hr1 := hW1.row
        go_wp2_with (apply wpl_storeMid; rfl; rfl; rfl; rfl; exact hr1; kernel_rfl; decide; (intro v hv; simp at hv; rcases hv with rfl | rfl | rfl | rfl <;> rfl); intro W2 hW2; simp only [Act.put])
        have hr2 := hW2.row
        go_roundw
        case rel => exact ⟨_, by decide, rfl, hr2, ⟨c, hc, (hr0.upd hW1 hne).upd hW2 hne⟩, hB.trans ((hW1.below (by omega)).trans (hW2.below (by omega)))⟩
        case measure => simp [intOf]
    · obtain rfl : k = 4 := by omega
      have hl4 := plRow_length 4 (by omega)
      rw [plRow_end] at hr
      go_wp2_with (first | (apply wpl_loadS (ty := 135); rfl; rfl; rfl; kernel_rfl; exact hr; kernel_rfl; simp only [Act.put, List.setIfInBounds_toArray, List.set_cons_zero, List.set_cons_succ]) | (apply wpl_storeX; rfl; rfl; rfl; rfl; exact hr0; kernel_rfl; exact hc; exact placesV_all; intro W6 hW6; simp only [Act.put]))
      refine bodyPost_ret (results_cell1 rfl rfl (run_loadRow _ _ _ _ _ 0 hW6.row (by kernel_rfl) (by kernel_rfl))) rfl ⟨?_, hB.trans (hW6.below (by omega))⟩
      rfl
theorem quarter_at {k : Nat} (hk : k < 8) : ∃ p0 p1 p2 p3 : Nat, quarterL[k]? = some (p0, p1, p2, p3) ∧ (∀ w, (Instr.index 135 (.agg placesV.toArray) (.int .i64 (k : Int))).run Try.prog w = .ok (.agg #[.int .i64 (p0 : Int), .int .i64 (p1 : Int), .int .i64 (p2 : Int), .int .i64 (p3 : Int)]) w) ∧
    p0 < 16 ∧ p1 < 16 ∧ p2 < 16 ∧ p3 < 16 := by
  obtain rfl | rfl | rfl | rfl | rfl | rfl | rfl | rfl : k = 0 ∨ k = 1 ∨ k = 2 ∨ k = 3 ∨ k = 4 ∨ k = 5 ∨ k = 6 ∨ k = 7 := by omega
  all_goals exact ⟨_, _, _, _, rfl, fun w => by kernel_rfl, by decide, by decide, by decide, by decide⟩
set_option maxHeartbeats 4000000 in
set_option maxRecDepth 100000 in
theorem c_double (s : List Int) (hs : s.length = 16) (w : World) : Calls Try.prog 98 #[.agg (wv s).toArray] w fun e w' => e = .returned (.agg (wv (doubleL s)).toArray) ∧ Below w.heap.size w w' := by
  have hS := Lib.hid hs
  clear hs
  go_enter Try.func98, Try.ntmps98
  go_wp2_with fail
  refine (c_places _).mono ?_
  rintro e w1 ⟨rfl, hB⟩
  go_wp2_with fail
  have hr1 := (Row.new w (wv s).toArray 128).alloc (.cells (wv (List.replicate 16 0)).toArray 128)
  have hr2 := Row.new (w.alloc (.cells (wv s).toArray 128)) (wv (List.replicate 16 0)).toArray 128
  have hs1 : (w.alloc (.cells (wv s).toArray 128)).heap.size = w.heap.size + 1 := by simp
  have hs2 : ((w.alloc (.cells (wv s).toArray 128)).alloc (.cells (wv (List.replicate 16 0)).toArray 128)).heap.size = w.heap.size + 2 := by simp
  have hB' : Below (w.heap.size + 2) ((w.alloc (.cells (wv s).toArray 128)).alloc (.cells (wv (List.replicate 16 0)).toArray 128)) w1 := by rw [← hs2]; exact hB
  clear hB
  rw [hs1] at hr2
  have h1 := hr1.below hB' (by omega)
  have h2 := hr2.below hB' (by omega)
  have hBw : Below w.heap.size w w1 := (below_alloc (below_alloc (Below.refl _ _) _) _).trans (hB'.mono (by omega))
  have hsz := hB'.size
  rw [hs2] at hsz
  clear hB' hs1 hs2 hr1 hr2
  go_loopw [6] (fun s6 wr => ∃ k : Nat, k ≤ 8 ∧ s6 = .int .i64 (k : Int) ∧ Row wr w.heap.size (wv (qrows s k)).toArray 128 ∧ Row wr (w.heap.size + 1) (wv (List.replicate 16 0)).toArray 128 ∧ Below w.heap.size w wr ∧ w.heap.size + 2 ≤ wr.heap.size) (fun i _ => (8 - intOf i).toNat)
  case atStart => exact ⟨0, by omega, rfl, h1, h2, hBw, hsz⟩
  case round =>
    clear h1 h2 hBw hsz
    obtain ⟨k, hk, rfl, h1, h2, hB, hz⟩ := hrel
    by_cases hlt : k < 8
    · obtain ⟨p0, p1, p2, p3, hq, hix, l0, l1, l2, l3⟩ := quarter_at hlt
      go_upto_region 4 with fail
      have r4 := Row.new wr #[.int .i64 (p0 : Int), .int .i64 (p1 : Int), .int .i64 (p2 : Int), .int .i64 (p3 : Int)] 134
      have r1 := h1.alloc (.cells #[.int .i64 (p0 : Int), .int .i64 (p1 : Int), .int .i64 (p2 : Int), .int .i64 (p3 : Int)] 134)
      have r2 := h2.alloc (.cells #[.int .i64 (p0 : Int), .int .i64 (p1 : Int), .int .i64 (p2 : Int), .int .i64 (p3 : Int)] 134)
      have hB3 := hB.trans (belowB_alloc (B := w.heap.size) (w := wr) (by omega) (.cells #[.int .i64 (p0 : Int), .int .i64 (p1 : Int), .int .i64 (p2 : Int), .int .i64 (p3 : Int)] 134))
      have hz3 : (wr.alloc (.cells #[.int .i64 (p0 : Int), .int .i64 (p1 : Int), .int .i64 (p2 : Int), .int .i64 (p3 : Int)] 134)).heap.size = wr.heap.size + 1 := by simp
      generalize wr.alloc (.cells #[.int .i64 (p0 : Int), .int .i64 (p1 : Int), .int .i64 (p2 : Int), .int .i64 (p3 : Int)] 134) = W3 at *
      generalize hg4 : wr.heap.size = g4 at *
      generalize hg1 : w.heap.size = g1 at *
      have hl : (qrows s k).length = 16 := by rw [qrows_length, hS.out]
      have c0 := r4.cell 0 rfl
      have c1 := r4.cell 1 rfl
      have c2 := r4.cell 2 rfl
      have c3 := r4.cell 3 rfl
      have d0 := wv_cell r1 (j := p0) (by omega)
      have d1 := wv_cell r1 (j := p1) (by omega)
      have d2 := wv_cell r1 (j := p2) (by omega)
      have d3 := wv_cell r1 (j := p3) (by omega)
      have hst : qrows s (k + 1) = ((((qrows s k).set p0 (qA2 ((qrows s k).getD p0 0) ((qrows s k).getD p1 0) ((qrows s k).getD p2 0) ((qrows s k).getD p3 0))).set p1 (qB2 ((qrows s k).getD p0 0) ((qrows s k).getD p1 0) ((qrows s k).getD p2 0) ((qrows s k).getD p3 0))).set p2 (qC2 ((qrows s k).getD p0 0) ((qrows s k).getD p1 0) ((qrows s k).getD p2 0) ((qrows s k).getD p3 0))).set p3 (qD2 ((qrows s k).getD p0 0) ((qrows s k).getD p1 0) ((qrows s k).getD p2 0) ((qrows s k).getD p3 0)) := qrows_succ s k _ hq
      generalize (qrows s k).getD p0 0 = x0 at *
      generalize (qrows s k).getD p1 0 = x1 at *
      generalize (qrows s k).getD p2 0 = x2 at *
      generalize (qrows s k).getD p3 0 = x3 at *
      have HST := Lib.hid hst
      clear hst
      have e41 : g4 ≠ g1 := by omega
      have f0 := r1.free p0
      have f1 := r1.free p1
      have f2 := r1.free p2
      have f3 := r1.free p3
      have b1 : g1 < W3.heap.size := by omega
      have b4 : g4 < W3.heap.size := by omega
      clear hix
      have m0 : (p0 : Int) < 16 := by omega
      have m1 : (p1 : Int) < 16 := by omega
      have m2 : (p2 : Int) < 16 := by omega
      have m3 : (p3 : Int) < 16 := by omega
      have hBY := below_drew hB3
      have r1d : Row W3.drew g1 _ _ := r1
      have r2d : Row W3.drew (g1 + 1) _ _ := r2
      have hne2 : g1 + 1 ≠ g1 := by omega
      (refine wp_region_linN (But W3.heap.size g1) (Below W3.heap.size) (wayBut _ _) (wayB _) (fun _ _ h => but_below h) (.free 0 (.cold 1 (.free 2 (.cold 3 (.free 4 (.cold 5 (.free 6 (.cold 7 (.free 8 (.hot 9 (.free 10 (.hot 11 (.free 12 (.hot 13 (.free 14 (.hot 15 (.free 16 (.hot 17 (.free 18 (.hot 19 (.free 20 (.hot 21 (.free 22 (.hot 23 (.op 24 [(11, 24), (10, 11), (9, 10), (15, 24), (14, 15), (13, 14), (19, 24), (18, 19), (17, 18), (23, 24), (22, 23), (21, 22)] [] [1, 3, 5, 7] (.free 25 (.free 26 (.free 27 (.free 28 (.free 29 (.free 30 (.op 31 [(1, 31)] [] [3, 5, 7] (.free 32 (.op 33 [(3, 33)] [] [5, 7] (.free 34 (.op 35 [(5, 35)] [] [7] (.free 36 (.op 37 [(7, 37)] [] [] .nil)))))))))))))))))))))))))))))))))))))) rfl (by kernel_rfl) (by kernel_rfl) (fun _ _ _ _ _ h => h) ?_; (first | (apply linN_free; (simp only [List.getElem?_toArray, List.getElem?_cons_succ, List.getElem?_cons_zero]; rfl); (rfl); (intro w'; (first | (go_simp; done) | (go_simp; with_reducible rfl) | (go_simp; go_bits; with_reducible rfl) | (go_simp; go_bits; done))); try simp only [Act.put, List.setIfInBounds_toArray, List.set_cons_zero, List.set_cons_succ]) | (apply linN_freeSkip; (simp only [List.getElem?_toArray, List.getElem?_cons_succ, List.getElem?_cons_zero]; rfl); (rfl); try simp only [Act.put, List.setIfInBounds_toArray, List.set_cons_zero, List.set_cons_succ])); (first | (apply linN_cold; (simp only [List.getElem?_toArray, List.getElem?_cons_succ, List.getElem?_cons_zero]; rfl); (rfl); (intro w' hb'; (try have k_c0 := But.cell hb' (by first | assumption | omega | (simp; done) | (simp; omega)) (by first | assumption | omega | (simp; done) | (simp; omega)) c0); (try have k_c1 := But.cell hb' (by first | assumption | omega | (simp; done) | (simp; omega)) (by first | assumption | omega | (simp; done) | (simp; omega)) c1); (try have k_c2 := But.cell hb' (by first | assumption | omega | (simp; done) | (simp; omega)) (by first | assumption | omega | (simp; done) | (simp; omega)) c2); (try have k_c3 := But.cell hb' (by first | assumption | omega | (simp; done) | (simp; omega)) (by first | assumption | omega | (simp; done) | (simp; omega)) c3); (try have k_d0 := But.cell hb' (by first | assumption | omega | (simp; done) | (simp; omega)) (by first | assumption | omega | (simp; done) | (simp; omega)) d0); (try have k_d1 := But.cell hb' (by first | assumption | omega | (simp; done) | (simp; omega)) (by first | assumption | omega | (simp; done) | (simp; omega)) d1); (try have k_d2 := But.cell hb' (by first | assumption | omega | (simp; done) | (simp; omega)) (by first | assumption | omega | (simp; done) | (simp; omega)) d2); (try have k_d3 := But.cell hb' (by first | assumption | omega | (simp; done) | (simp; omega)) (by first | assumption | omega | (simp; done) | (simp; omega)) d3); (first | (go_simp; done) | (go_simp; with_reducible rfl) | (go_simp; go_bits; with_reducible rfl) | (go_simp; go_bits; done))); try simp only [Act.put, List.setIfInBounds_toArray, List.set_cons_zero, List.set_cons_succ]) | (apply linN_coldSkip; (simp only [List.getElem?_toArray, List.getElem?_cons_succ, List.getElem?_cons_zero]; rfl); (rfl); try simp only [Act.put, List.setIfInBounds_toArray, List.set_cons_zero, List.set_cons_succ])); (first | (apply linN_free; (simp only [List.getElem?_toArray, List.getElem?_cons_succ, List.getElem?_cons_zero]; rfl); (rfl); (intro w'; (first | (go_simp; done) | (go_simp; with_reducible rfl) | (go_simp; go_bits; with_reducible rfl) | (go_simp; go_bits; done))); try simp only [Act.put, List.setIfInBounds_toArray, List.set_cons_zero, List.set_cons_succ]) | (apply linN_freeSkip; (simp only [List.getElem?_toArray, List.getElem?_cons_succ, List.getElem?_cons_zero]; rfl); (rfl); try simp only [Act.put, List.setIfInBounds_toArray, List.set_cons_zero, List.set_cons_succ])); (first | (apply linN_cold; (simp only [List.getElem?_toArray, List.getElem?_cons_succ, List.getElem?_cons_zero]; rfl); (rfl); (intro w' hb'; (try have k_c0 := But.cell hb' (by first | assumption | omega | (simp; done) | (simp; omega)) (by first | assumption | omega | (simp; done) | (simp; omega)) c0); (try have k_c1 := But.cell hb' (by first | assumption | omega | (simp; done) | (simp; omega)) (by first | assumption | omega | (simp; done) | (simp; omega)) c1); (try have k_c2 := But.cell hb' (by first | assumption | omega | (simp; done) | (simp; omega)) (by first | assumption | omega | (simp; done) | (simp; omega)) c2); (try have k_c3 := But.cell hb' (by first | assumption | omega | (simp; done) | (simp; omega)) (by first | assumption | omega | (simp; done) | (simp; omega)) c3); (try have k_d0 := But.cell hb' (by first | assumption | omega | (simp; done) | (simp; omega)) (by first | assumption | omega | (simp; done) | (simp; omega)) d0); (try have k_d1 := But.cell hb' (by first | assumption | omega | (simp; done) | (simp; omega)) (by first | assumption | omega | (simp; done) | (simp; omega)) d1); (try have k_d2 := But.cell hb' (by first | assumption | omega | (simp; done) | (simp; omega)) (by first | assumption | omega | (simp; done) | (simp; omega)) d2); (try have k_d3 := But.cell hb' (by first | assumption | omega | (simp; done) | (simp; omega)) (by first | assumption | omega | (simp; done) | (simp; omega)) d3); (first | (go_simp; done) | (go_simp; with_reducible rfl) | (go_simp; go_bits; with_reducible rfl) | (go_simp; go_bits; done))); try simp only [Act.put, List.setIfInBounds_toArray, List.set_cons_zero, List.set_cons_succ]) | (apply linN_coldSkip; (simp only [List.getElem?_toArray, List.getElem?_cons_succ, List.getElem?_cons_zero]; rfl); (rfl); try simp only [Act.put, List.setIfInBounds_toArray, List.set_cons_zero, List.set_cons_succ])); (first | (apply linN_free; (simp only [List.getElem?_toArray, List.getElem?_cons_succ, List.getElem?_cons_zero]; rfl); (rfl); (intro w'; (first | (go_simp; done) | (go_simp; with_reducible rfl) | (go_simp; go_bits; with_reducible rfl) | (go_simp; go_bits; done))); try simp only [Act.put, List.setIfInBounds_toArray, List.set_cons_zero, List.set_cons_succ]) | (apply linN_freeSkip; (simp only [List.getElem?_toArray, List.getElem?_cons_succ, List.getElem?_cons_zero]; rfl); (rfl); try simp only [Act.put, List.setIfInBounds_toArray, List.set_cons_zero, List.set_cons_succ])); (first | (apply linN_cold; (simp only [List.getElem?_toArray, List.getElem?_cons_succ, List.getElem?_cons_zero]; rfl); (rfl); (intro w' hb'; (try have k_c0 := But.cell hb' (by first | assumption | omega | (simp; done) | (simp; omega)) (by first | assumption | omega | (simp; done) | (simp; omega)) c0); (try have k_c1 := But.cell hb' (by first | assumption | omega | (simp; done) | (simp; omega)) (by first | assumption | omega | (simp; done) | (simp; omega)) c1); (try have k_c2 := But.cell hb' (by first | assumption | omega | (simp; done) | (simp; omega)) (by first | assumption | omega | (simp; done) | (simp; omega)) c2); (try have k_c3 := But.cell hb' (by first | assumption | omega | (simp; done) | (simp; omega)) (by first | assumption | omega | (simp; done) | (simp; omega)) c3); (try have k_d0 := But.cell hb' (by first | assumption | omega | (simp; done) | (simp; omega)) (by first | assumption | omega | (simp; done) | (simp; omega)) d0); (try have k_d1 := But.cell hb' (by first | assumption | omega | (simp; done) | (simp; omega)) (by first | assumption | omega | (simp; done) | (simp; omega)) d1); (try have k_d2 := But.cell hb' (by first | assumption | omega | (simp; done) | (simp; omega)) (by first | assumption | omega | (simp; done) | (simp; omega)) d2); (try have k_d3 := But.cell hb' (by first | assumption | omega | (simp; done) | (simp; omega)) (by first | assumption | omega | (simp; done) | (simp; omega)) d3); (first | (go_simp; done) | (go_simp; with_reducible rfl) | (go_simp; go_bits; with_reducible rfl) | (go_simp; go_bits; done))); try simp only [Act.put, List.setIfInBounds_toArray, List.set_cons_zero, List.set_cons_succ]) | (apply linN_coldSkip; (simp only [List.getElem?_toArray, List.getElem?_cons_succ, List.getElem?_cons_zero]; rfl); (rfl); try simp only [Act.put, List.setIfInBounds_toArray, List.set_cons_zero, List.set_cons_succ])); (first | (apply linN_free; (simp only [List.getElem?_toArray, List.getElem?_cons_succ, List.getElem?_cons_zero]; rfl); (rfl); (intro w'; (first | (go_simp; done) | (go_simp; with_reducible rfl) | (go_simp; go_bits; with_reducible rfl) | (go_simp; go_bits; done))); try simp only [Act.put, List.setIfInBounds_toArray, List.set_cons_zero, List.set_cons_succ]) | (apply linN_freeSkip; (simp only [List.getElem?_toArray, List.getElem?_cons_succ, List.getElem?_cons_zero]; rfl); (rfl); try simp only [Act.put, List.setIfInBounds_toArray, List.set_cons_zero, List.set_cons_succ])); (first | (apply linN_cold; (simp only [List.getElem?_toArray, List.getElem?_cons_succ, List.getElem?_cons_zero]; rfl); (rfl); (intro w' hb'; (try have k_c0 := But.cell hb' (by first | assumption | omega | (simp; done) | (simp; omega)) (by first | assumption | omega | (simp; done) | (simp; omega)) c0); (try have k_c1 := But.cell hb' (by first | assumption | omega | (simp; done) | (simp; omega)) (by first | assumption | omega | (simp; done) | (simp; omega)) c1); (try have k_c2 := But.cell hb' (by first | assumption | omega | (simp; done) | (simp; omega)) (by first | assumption | omega | (simp; done) | (simp; omega)) c2); (try have k_c3 := But.cell hb' (by first | assumption | omega | (simp; done) | (simp; omega)) (by first | assumption | omega | (simp; done) | (simp; omega)) c3); (try have k_d0 := But.cell hb' (by first | assumption | omega | (simp; done) | (simp; omega)) (by first | assumption | omega | (simp; done) | (simp; omega)) d0); (try have k_d1 := But.cell hb' (by first | assumption | omega | (simp; done) | (simp; omega)) (by first | assumption | omega | (simp; done) | (simp; omega)) d1); (try have k_d2 := But.cell hb' (by first | assumption | omega | (simp; done) | (simp; omega)) (by first | assumption | omega | (simp; done) | (simp; omega)) d2); (try have k_d3 := But.cell hb' (by first | assumption | omega | (simp; done) | (simp; omega)) (by first | assumption | omega | (simp; done) | (simp; omega)) d3); (first | (go_simp; done) | (go_simp; with_reducible rfl) | (go_simp; go_bits; with_reducible rfl) | (go_simp; go_bits; done))); try simp only [Act.put, List.setIfInBounds_toArray, List.set_cons_zero, List.set_cons_succ]) | (apply linN_coldSkip; (simp only [List.getElem?_toArray, List.getElem?_cons_succ, List.getElem?_cons_zero]; rfl); (rfl); try simp only [Act.put, List.setIfInBounds_toArray, List.set_cons_zero, List.set_cons_succ])); (first | (apply linN_free; (simp only [List.getElem?_toArray, List.getElem?_cons_succ, List.getElem?_cons_zero]; rfl); (rfl); (intro w'; (first | (go_simp; done) | (go_simp; with_reducible rfl) | (go_simp; go_bits; with_reducible rfl) | (go_simp; go_bits; done))); try simp only [Act.put, List.setIfInBounds_toArray, List.set_cons_zero, List.set_cons_succ]) | (apply linN_freeSkip; (simp only [List.getElem?_toArray, List.getElem?_cons_succ, List.getElem?_cons_zero]; rfl); (rfl); try simp only [Act.put, List.setIfInBounds_toArray, List.set_cons_zero, List.set_cons_succ])); (first | (apply linN_hot; (simp only [List.getElem?_toArray, List.getElem?_cons_succ, List.getElem?_cons_zero]; rfl); (rfl); (intro w' hb'; (try have k_c0 := keepB (by first | assumption | omega | (simp; done) | (simp; omega)) hb' c0); (try have k_c1 := keepB (by first | assumption | omega | (simp; done) | (simp; omega)) hb' c1); (try have k_c2 := keepB (by first | assumption | omega | (simp; done) | (simp; omega)) hb' c2); (try have k_c3 := keepB (by first | assumption | omega | (simp; done) | (simp; omega)) hb' c3); (try have k_d0 := keepB (by first | assumption | omega | (simp; done) | (simp; omega)) hb' d0); (try have k_d1 := keepB (by first | assumption | omega | (simp; done) | (simp; omega)) hb' d1); (try have k_d2 := keepB (by first | assumption | omega | (simp; done) | (simp; omega)) hb' d2); (try have k_d3 := keepB (by first | assumption | omega | (simp; done) | (simp; omega)) hb' d3); (first | (go_simp; done) | (go_simp; with_reducible rfl) | (go_simp; go_bits; with_reducible rfl) | (go_simp; go_bits; done))); try simp only [Act.put, List.setIfInBounds_toArray, List.set_cons_zero, List.set_cons_succ]) | (apply linN_hotSkip; (simp only [List.getElem?_toArray, List.getElem?_cons_succ, List.getElem?_cons_zero]; rfl); (rfl); try simp only [Act.put, List.setIfInBounds_toArray, List.set_cons_zero, List.set_cons_succ])); (first | (apply linN_free; (simp only [List.getElem?_toArray, List.getElem?_cons_succ, List.getElem?_cons_zero]; rfl); (rfl); (intro w'; (first | (go_simp; done) | (go_simp; with_reducible rfl) | (go_simp; go_bits; with_reducible rfl) | (go_simp; go_bits; done))); try simp only [Act.put, List.setIfInBounds_toArray, List.set_cons_zero, List.set_cons_succ]) | (apply linN_freeSkip; (simp only [List.getElem?_toArray, List.getElem?_cons_succ, List.getElem?_cons_zero]; rfl); (rfl); try simp only [Act.put, List.setIfInBounds_toArray, List.set_cons_zero, List.set_cons_succ])); (first | (apply linN_hot; (simp only [List.getElem?_toArray, List.getElem?_cons_succ, List.getElem?_cons_zero]; rfl); (rfl); (intro w' hb'; (try have k_c0 := keepB (by first | assumption | omega | (simp; done) | (simp; omega)) hb' c0); (try have k_c1 := keepB (by first | assumption | omega | (simp; done) | (simp; omega)) hb' c1); (try have k_c2 := keepB (by first | assumption | omega | (simp; done) | (simp; omega)) hb' c2); (try have k_c3 := keepB (by first | assumption | omega | (simp; done) | (simp; omega)) hb' c3); (try have k_d0 := keepB (by first | assumption | omega | (simp; done) | (simp; omega)) hb' d0); (try have k_d1 := keepB (by first | assumption | omega | (simp; done) | (simp; omega)) hb' d1); (try have k_d2 := keepB (by first | assumption | omega | (simp; done) | (simp; omega)) hb' d2); (try have k_d3 := keepB (by first | assumption | omega | (simp; done) | (simp; omega)) hb' d3); (first | (go_simp; done) | (go_simp; with_reducible rfl) | (go_simp; go_bits; with_reducible rfl) | (go_simp; go_bits; done))); try simp only [Act.put, List.setIfInBounds_toArray, List.set_cons_zero, List.set_cons_succ]) | (apply linN_hotSkip; (simp only [List.getElem?_toArray, List.getElem?_cons_succ, List.getElem?_cons_zero]; rfl); (rfl); try simp only [Act.put, List.setIfInBounds_toArray, List.set_cons_zero, List.set_cons_succ])); (first | (apply linN_free; (simp only [List.getElem?_toArray, List.getElem?_cons_succ, List.getElem?_cons_zero]; rfl); (rfl); (intro w'; (first | (go_simp; done) | (go_simp; with_reducible rfl) | (go_simp; go_bits; with_reducible rfl) | (go_simp; go_bits; done))); try simp only [Act.put, List.setIfInBounds_toArray, List.set_cons_zero, List.set_cons_succ]) | (apply linN_freeSkip; (simp only [List.getElem?_toArray, List.getElem?_cons_succ, List.getElem?_cons_zero]; rfl); (rfl); try simp only [Act.put, List.setIfInBounds_toArray, List.set_cons_zero, List.set_cons_succ])); (first | (apply linN_hot; (simp only [List.getElem?_toArray, List.getElem?_cons_succ, List.getElem?_cons_zero]; rfl); (rfl); (intro w' hb'; (try have k_c0 := keepB (by first | assumption | omega | (simp; done) | (simp; omega)) hb' c0); (try have k_c1 := keepB (by first | assumption | omega | (simp; done) | (simp; omega)) hb' c1); (try have k_c2 := keepB (by first | assumption | omega | (simp; done) | (simp; omega)) hb' c2); (try have k_c3 := keepB (by first | assumption | omega | (simp; done) | (simp; omega)) hb' c3); (try have k_d0 := keepB (by first | assumption | omega | (simp; done) | (simp; omega)) hb' d0); (try have k_d1 := keepB (by first | assumption | omega | (simp; done) | (simp; omega)) hb' d1); (try have k_d2 := keepB (by first | assumption | omega | (simp; done) | (simp; omega)) hb' d2); (try have k_d3 := keepB (by first | assumption | omega | (simp; done) | (simp; omega)) hb' d3); (first | (go_simp; done) | (go_simp; with_reducible rfl) | (go_simp; go_bits; with_reducible rfl) | (go_simp; go_bits; done))); try simp only [Act.put, List.setIfInBounds_toArray, List.set_cons_zero, List.set_cons_succ]) | (apply linN_hotSkip; (simp only [List.getElem?_toArray, List.getElem?_cons_succ, List.getElem?_cons_zero]; rfl); (rfl); try simp only [Act.put, List.setIfInBounds_toArray, List.set_cons_zero, List.set_cons_succ])); (first | (apply linN_free; (simp only [List.getElem?_toArray, List.getElem?_cons_succ, List.getElem?_cons_zero]; rfl); (rfl); (intro w'; (first | (go_simp; done) | (go_simp; with_reducible rfl) | (go_simp; go_bits; with_reducible rfl) | (go_simp; go_bits; done))); try simp only [Act.put, List.setIfInBounds_toArray, List.set_cons_zero, List.set_cons_succ]) | (apply linN_freeSkip; (simp only [List.getElem?_toArray, List.getElem?_cons_succ, List.getElem?_cons_zero]; rfl); (rfl); try simp only [Act.put, List.setIfInBounds_toArray, List.set_cons_zero, List.set_cons_succ])); (first | (apply linN_hot; (simp only [List.getElem?_toArray, List.getElem?_cons_succ, List.getElem?_cons_zero]; rfl); (rfl); (intro w' hb'; (try have k_c0 := keepB (by first | assumption | omega | (simp; done) | (simp; omega)) hb' c0); (try have k_c1 := keepB (by first | assumption | omega | (simp; done) | (simp; omega)) hb' c1); (try have k_c2 := keepB (by first | assumption | omega | (simp; done) | (simp; omega)) hb' c2); (try have k_c3 := keepB (by first | assumption | omega | (simp; done) | (simp; omega)) hb' c3); (try have k_d0 := keepB (by first | assumption | omega | (simp; done) | (simp; omega)) hb' d0); (try have k_d1 := keepB (by first | assumption | omega | (simp; done) | (simp; omega)) hb' d1); (try have k_d2 := keepB (by first | assumption | omega | (simp; done) | (simp; omega)) hb' d2); (try have k_d3 := keepB (by first | assumption | omega | (simp; done) | (simp; omega)) hb' d3); (first | (go_simp; done) | (go_simp; with_reducible rfl) | (go_simp; go_bits; with_reducible rfl) | (go_simp; go_bits; done))); try simp only [Act.put, List.setIfInBounds_toArray, List.set_cons_zero, List.set_cons_succ]) | (apply linN_hotSkip; (simp only [List.getElem?_toArray, List.getElem?_cons_succ, List.getElem?_cons_zero]; rfl); (rfl); try simp only [Act.put, List.setIfInBounds_toArray, List.set_cons_zero, List.set_cons_succ])); (first | (apply linN_free; (simp only [List.getElem?_toArray, List.getElem?_cons_succ, List.getElem?_cons_zero]; rfl); (rfl); (intro w'; (first | (go_simp; done) | (go_simp; with_reducible rfl) | (go_simp; go_bits; with_reducible rfl) | (go_simp; go_bits; done))); try simp only [Act.put, List.setIfInBounds_toArray, List.set_cons_zero, List.set_cons_succ]) | (apply linN_freeSkip; (simp only [List.getElem?_toArray, List.getElem?_cons_succ, List.getElem?_cons_zero]; rfl); (rfl); try simp only [Act.put, List.setIfInBounds_toArray, List.set_cons_zero, List.set_cons_succ])); (first | (apply linN_hot; (simp only [List.getElem?_toArray, List.getElem?_cons_succ, List.getElem?_cons_zero]; rfl); (rfl); (intro w' hb'; (try have k_c0 := keepB (by first | assumption | omega | (simp; done) | (simp; omega)) hb' c0); (try have k_c1 := keepB (by first | assumption | omega | (simp; done) | (simp; omega)) hb' c1); (try have k_c2 := keepB (by first | assumption | omega | (simp; done) | (simp; omega)) hb' c2); (try have k_c3 := keepB (by first | assumption | omega | (simp; done) | (simp; omega)) hb' c3); (try have k_d0 := keepB (by first | assumption | omega | (simp; done) | (simp; omega)) hb' d0); (try have k_d1 := keepB (by first | assumption | omega | (simp; done) | (simp; omega)) hb' d1); (try have k_d2 := keepB (by first | assumption | omega | (simp; done) | (simp; omega)) hb' d2); (try have k_d3 := keepB (by first | assumption | omega | (simp; done) | (simp; omega)) hb' d3); (first | (go_simp; done) | (go_simp; with_reducible rfl) | (go_simp; go_bits; with_reducible rfl) | (go_simp; go_bits; done))); try simp only [Act.put, List.setIfInBounds_toArray, List.set_cons_zero, List.set_cons_succ]) | (apply linN_hotSkip; (simp only [List.getElem?_toArray, List.getElem?_cons_succ, List.getElem?_cons_zero]; rfl); (rfl); try simp only [Act.put, List.setIfInBounds_toArray, List.set_cons_zero, List.set_cons_succ])); (first | (apply linN_free; (simp only [List.getElem?_toArray, List.getElem?_cons_succ, List.getElem?_cons_zero]; rfl); (rfl); (intro w'; (first | (go_simp; done) | (go_simp; with_reducible rfl) | (go_simp; go_bits; with_reducible rfl) | (go_simp; go_bits; done))); try simp only [Act.put, List.setIfInBounds_toArray, List.set_cons_zero, List.set_cons_succ]) | (apply linN_freeSkip; (simp only [List.getElem?_toArray, List.getElem?_cons_succ, List.getElem?_cons_zero]; rfl); (rfl); try simp only [Act.put, List.setIfInBounds_toArray, List.set_cons_zero, List.set_cons_succ])); (first | (apply linN_hot; (simp only [List.getElem?_toArray, List.getElem?_cons_succ, List.getElem?_cons_zero]; rfl); (rfl); (intro w' hb'; (try have k_c0 := keepB (by first | assumption | omega | (simp; done) | (simp; omega)) hb' c0); (try have k_c1 := keepB (by first | assumption | omega | (simp; done) | (simp; omega)) hb' c1); (try have k_c2 := keepB (by first | assumption | omega | (simp; done) | (simp; omega)) hb' c2); (try have k_c3 := keepB (by first | assumption | omega | (simp; done) | (simp; omega)) hb' c3); (try have k_d0 := keepB (by first | assumption | omega | (simp; done) | (simp; omega)) hb' d0); (try have k_d1 := keepB (by first | assumption | omega | (simp; done) | (simp; omega)) hb' d1); (try have k_d2 := keepB (by first | assumption | omega | (simp; done) | (simp; omega)) hb' d2); (try have k_d3 := keepB (by first | assumption | omega | (simp; done) | (simp; omega)) hb' d3); (first | (go_simp; done) | (go_simp; with_reducible rfl) | (go_simp; go_bits; with_reducible rfl) | (go_simp; go_bits; done))); try simp only [Act.put, List.setIfInBounds_toArray, List.set_cons_zero, List.set_cons_succ]) | (apply linN_hotSkip; (simp only [List.getElem?_toArray, List.getElem?_cons_succ, List.getElem?_cons_zero]; rfl); (rfl); try simp only [Act.put, List.setIfInBounds_toArray, List.set_cons_zero, List.set_cons_succ])); (first | (apply linN_free; (simp only [List.getElem?_toArray, List.getElem?_cons_succ, List.getElem?_cons_zero]; rfl); (rfl); (intro w'; (first | (go_simp; done) | (go_simp; with_reducible rfl) | (go_simp; go_bits; with_reducible rfl) | (go_simp; go_bits; done))); try simp only [Act.put, List.setIfInBounds_toArray, List.set_cons_zero, List.set_cons_succ]) | (apply linN_freeSkip; (simp only [List.getElem?_toArray, List.getElem?_cons_succ, List.getElem?_cons_zero]; rfl); (rfl); try simp only [Act.put, List.setIfInBounds_toArray, List.set_cons_zero, List.set_cons_succ])); (first | (apply linN_hot; (simp only [List.getElem?_toArray, List.getElem?_cons_succ, List.getElem?_cons_zero]; rfl); (rfl); (intro w' hb'; (try have k_c0 := keepB (by first | assumption | omega | (simp; done) | (simp; omega)) hb' c0); (try have k_c1 := keepB (by first | assumption | omega | (simp; done) | (simp; omega)) hb' c1); (try have k_c2 := keepB (by first | assumption | omega | (simp; done) | (simp; omega)) hb' c2); (try have k_c3 := keepB (by first | assumption | omega | (simp; done) | (simp; omega)) hb' c3); (try have k_d0 := keepB (by first | assumption | omega | (simp; done) | (simp; omega)) hb' d0); (try have k_d1 := keepB (by first | assumption | omega | (simp; done) | (simp; omega)) hb' d1); (try have k_d2 := keepB (by first | assumption | omega | (simp; done) | (simp; omega)) hb' d2); (try have k_d3 := keepB (by first | assumption | omega | (simp; done) | (simp; omega)) hb' d3); (first | (go_simp; done) | (go_simp; with_reducible rfl) | (go_simp; go_bits; with_reducible rfl) | (go_simp; go_bits; done))); try simp only [Act.put, List.setIfInBounds_toArray, List.set_cons_zero, List.set_cons_succ]) | (apply linN_hotSkip; (simp only [List.getElem?_toArray, List.getElem?_cons_succ, List.getElem?_cons_zero]; rfl); (rfl); try simp only [Act.put, List.setIfInBounds_toArray, List.set_cons_zero, List.set_cons_succ])); (first | (apply linN_free; (simp only [List.getElem?_toArray, List.getElem?_cons_succ, List.getElem?_cons_zero]; rfl); (rfl); (intro w'; (first | (go_simp; done) | (go_simp; with_reducible rfl) | (go_simp; go_bits; with_reducible rfl) | (go_simp; go_bits; done))); try simp only [Act.put, List.setIfInBounds_toArray, List.set_cons_zero, List.set_cons_succ]) | (apply linN_freeSkip; (simp only [List.getElem?_toArray, List.getElem?_cons_succ, List.getElem?_cons_zero]; rfl); (rfl); try simp only [Act.put, List.setIfInBounds_toArray, List.set_cons_zero, List.set_cons_succ])); (first | (apply linN_hot; (simp only [List.getElem?_toArray, List.getElem?_cons_succ, List.getElem?_cons_zero]; rfl); (rfl); (intro w' hb'; (try have k_c0 := keepB (by first | assumption | omega | (simp; done) | (simp; omega)) hb' c0); (try have k_c1 := keepB (by first | assumption | omega | (simp; done) | (simp; omega)) hb' c1); (try have k_c2 := keepB (by first | assumption | omega | (simp; done) | (simp; omega)) hb' c2); (try have k_c3 := keepB (by first | assumption | omega | (simp; done) | (simp; omega)) hb' c3); (try have k_d0 := keepB (by first | assumption | omega | (simp; done) | (simp; omega)) hb' d0); (try have k_d1 := keepB (by first | assumption | omega | (simp; done) | (simp; omega)) hb' d1); (try have k_d2 := keepB (by first | assumption | omega | (simp; done) | (simp; omega)) hb' d2); (try have k_d3 := keepB (by first | assumption | omega | (simp; done) | (simp; omega)) hb' d3); (first | (go_simp; done) | (go_simp; with_reducible rfl) | (go_simp; go_bits; with_reducible rfl) | (go_simp; go_bits; done))); try simp only [Act.put, List.setIfInBounds_toArray, List.set_cons_zero, List.set_cons_succ]) | (apply linN_hotSkip; (simp only [List.getElem?_toArray, List.getElem?_cons_succ, List.getElem?_cons_zero]; rfl); (rfl); try simp only [Act.put, List.setIfInBounds_toArray, List.set_cons_zero, List.set_cons_succ])); (first | (apply linN_pass (wayBut _ _) (wayB _); (simp only [List.getElem?_toArray, List.getElem?_cons_succ, List.getElem?_cons_zero]; rfl); (rfl); try simp only [Act.put, List.setIfInBounds_toArray, List.set_cons_zero, List.set_cons_succ]) | (apply linN_op; (simp only [List.getElem?_toArray, List.getElem?_cons_succ, List.getElem?_cons_zero]; rfl); (rfl); intro K hK; (first | (apply wp_storeY; rfl; rfl; (focus (go_simp; try rfl)); kernel_rfl; rfl; rfl; (first | exact hY.row | exact r1d); (simp only [List.size_toArray, Array.size_setIfInBounds, wv_length, hl]; assumption); intro WY hY; have hBY := Below.trans hBY (hY.below (Nat.le_refl _)); have r2d := Row.upd r2d hY hne2) | (go_simp; (first | (go_at_call 102; refine (c_round _ _ _ _ _).mono ?_; rintro e w' ⟨rfl, rfl⟩; unfold qtup) | skip))); refine hK _ _ ?_ ?_; (show (But W3.heap.size g1) _ _; (first | exact hdr2 | assumption | exact (wayBut _ _).refl _ | exact (wayB _).refl _ | exact Below.refl _ _ | exact ⟨rfl, rfl, rfl, Nat.le_refl _, fun _ _ => rfl⟩ | exact but_set _ _ _ _ _ | exact but_drew (but_set _ _ _ _ _) | exact but_upd (by assumption) | exact but_below (by assumption) | exact belowB_alloc (by first | omega | (simp; done) | (simp; omega)) _ | exact belowB_mono (by first | omega | (simp; done) | (simp; omega)) (by assumption) | (first | exact rg_alloc (by simp; omega) (by simp; omega) _ | exact FR.of_below (below_alloc (Below.refl _ _) _) (by first | assumption | (simp; omega)) | exact DR.of_below (below_alloc (Below.refl _ _) _) (by first | assumption | (simp; omega))))); clear hK; try simp only [Act.put, List.setIfInBounds_toArray, List.set_cons_zero, List.set_cons_succ])); (first | (apply linN_free; (simp only [List.getElem?_toArray, List.getElem?_cons_succ, List.getElem?_cons_zero]; rfl); (rfl); (intro w'; (first | (go_simp; done) | (go_simp; with_reducible rfl) | (go_simp; go_bits; with_reducible rfl) | (go_simp; go_bits; done))); try simp only [Act.put, List.setIfInBounds_toArray, List.set_cons_zero, List.set_cons_succ]) | (apply linN_freeSkip; (simp only [List.getElem?_toArray, List.getElem?_cons_succ, List.getElem?_cons_zero]; rfl); (rfl); try simp only [Act.put, List.setIfInBounds_toArray, List.set_cons_zero, List.set_cons_succ])); (first | (apply linN_free; (simp only [List.getElem?_toArray, List.getElem?_cons_succ, List.getElem?_cons_zero]; rfl); (rfl); (intro w'; (first | (go_simp; done) | (go_simp; with_reducible rfl) | (go_simp; go_bits; with_reducible rfl) | (go_simp; go_bits; done))); try simp only [Act.put, List.setIfInBounds_toArray, List.set_cons_zero, List.set_cons_succ]) | (apply linN_freeSkip; (simp only [List.getElem?_toArray, List.getElem?_cons_succ, List.getElem?_cons_zero]; rfl); (rfl); try simp only [Act.put, List.setIfInBounds_toArray, List.set_cons_zero, List.set_cons_succ])); (first | (apply linN_free; (simp only [List.getElem?_toArray, List.getElem?_cons_succ, List.getElem?_cons_zero]; rfl); (rfl); (intro w'; (first | (go_simp; done) | (go_simp; with_reducible rfl) | (go_simp; go_bits; with_reducible rfl) | (go_simp; go_bits; done))); try simp only [Act.put, List.setIfInBounds_toArray, List.set_cons_zero, List.set_cons_succ]) | (apply linN_freeSkip; (simp only [List.getElem?_toArray, List.getElem?_cons_succ, List.getElem?_cons_zero]; rfl); (rfl); try simp only [Act.put, List.setIfInBounds_toArray, List.set_cons_zero, List.set_cons_succ])); (first | (apply linN_free; (simp only [List.getElem?_toArray, List.getElem?_cons_succ, List.getElem?_cons_zero]; rfl); (rfl); (intro w'; (first | (go_simp; done) | (go_simp; with_reducible rfl) | (go_simp; go_bits; with_reducible rfl) | (go_simp; go_bits; done))); try simp only [Act.put, List.setIfInBounds_toArray, List.set_cons_zero, List.set_cons_succ]) | (apply linN_freeSkip; (simp only [List.getElem?_toArray, List.getElem?_cons_succ, List.getElem?_cons_zero]; rfl); (rfl); try simp only [Act.put, List.setIfInBounds_toArray, List.set_cons_zero, List.set_cons_succ])); (first | (apply linN_free; (simp only [List.getElem?_toArray, List.getElem?_cons_succ, List.getElem?_cons_zero]; rfl); (rfl); (intro w'; (first | (go_simp; done) | (go_simp; with_reducible rfl) | (go_simp; go_bits; with_reducible rfl) | (go_simp; go_bits; done))); try simp only [Act.put, List.setIfInBounds_toArray, List.set_cons_zero, List.set_cons_succ]) | (apply linN_freeSkip; (simp only [List.getElem?_toArray, List.getElem?_cons_succ, List.getElem?_cons_zero]; rfl); (rfl); try simp only [Act.put, List.setIfInBounds_toArray, List.set_cons_zero, List.set_cons_succ])); (first | (apply linN_free; (simp only [List.getElem?_toArray, List.getElem?_cons_succ, List.getElem?_cons_zero]; rfl); (rfl); (intro w'; (first | (go_simp; done) | (go_simp; with_reducible rfl) | (go_simp; go_bits; with_reducible rfl) | (go_simp; go_bits; done))); try simp only [Act.put, List.setIfInBounds_toArray, List.set_cons_zero, List.set_cons_succ]) | (apply linN_freeSkip; (simp only [List.getElem?_toArray, List.getElem?_cons_succ, List.getElem?_cons_zero]; rfl); (rfl); try simp only [Act.put, List.setIfInBounds_toArray, List.set_cons_zero, List.set_cons_succ])); (first | (apply linN_pass (wayBut _ _) (wayB _); (simp only [List.getElem?_toArray, List.getElem?_cons_succ, List.getElem?_cons_zero]; rfl); (rfl); try simp only [Act.put, List.setIfInBounds_toArray, List.set_cons_zero, List.set_cons_succ]) | (apply linN_op; (simp only [List.getElem?_toArray, List.getElem?_cons_succ, List.getElem?_cons_zero]; rfl); (rfl); intro K hK; (first | (apply wp_storeY; rfl; rfl; (focus (go_simp; try rfl)); kernel_rfl; rfl; rfl; (first | exact hY.row | exact r1d); (simp only [List.size_toArray, Array.size_setIfInBounds, wv_length, hl]; assumption); intro WY hY; have hBY := Below.trans hBY (hY.below (Nat.le_refl _)); have r2d := Row.upd r2d hY hne2) | (go_simp; (first | (go_at_call 102; refine (c_round _ _ _ _ _).mono ?_; rintro e w' ⟨rfl, rfl⟩; unfold qtup) | skip))); refine hK _ _ ?_ ?_; (show (But W3.heap.size g1) _ _; (first | exact hdr2 | assumption | exact (wayBut _ _).refl _ | exact (wayB _).refl _ | exact Below.refl _ _ | exact ⟨rfl, rfl, rfl, Nat.le_refl _, fun _ _ => rfl⟩ | exact but_set _ _ _ _ _ | exact but_drew (but_set _ _ _ _ _) | exact but_upd (by assumption) | exact but_below (by assumption) | exact belowB_alloc (by first | omega | (simp; done) | (simp; omega)) _ | exact belowB_mono (by first | omega | (simp; done) | (simp; omega)) (by assumption) | (first | exact rg_alloc (by simp; omega) (by simp; omega) _ | exact FR.of_below (below_alloc (Below.refl _ _) _) (by first | assumption | (simp; omega)) | exact DR.of_below (below_alloc (Below.refl _ _) _) (by first | assumption | (simp; omega))))); clear hK; try simp only [Act.put, List.setIfInBounds_toArray, List.set_cons_zero, List.set_cons_succ])); (first | (apply linN_free; (simp only [List.getElem?_toArray, List.getElem?_cons_succ, List.getElem?_cons_zero]; rfl); (rfl); (intro w'; (first | (go_simp; done) | (go_simp; with_reducible rfl) | (go_simp; go_bits; with_reducible rfl) | (go_simp; go_bits; done))); try simp only [Act.put, List.setIfInBounds_toArray, List.set_cons_zero, List.set_cons_succ]) | (apply linN_freeSkip; (simp only [List.getElem?_toArray, List.getElem?_cons_succ, List.getElem?_cons_zero]; rfl); (rfl); try simp only [Act.put, List.setIfInBounds_toArray, List.set_cons_zero, List.set_cons_succ])); (first | (apply linN_pass (wayBut _ _) (wayB _); (simp only [List.getElem?_toArray, List.getElem?_cons_succ, List.getElem?_cons_zero]; rfl); (rfl); try simp only [Act.put, List.setIfInBounds_toArray, List.set_cons_zero, List.set_cons_succ]) | (apply linN_op; (simp only [List.getElem?_toArray, List.getElem?_cons_succ, List.getElem?_cons_zero]; rfl); (rfl); intro K hK; (first | (apply wp_storeY; rfl; rfl; (focus (go_simp; try rfl)); kernel_rfl; rfl; rfl; (first | exact hY.row | exact r1d); (simp only [List.size_toArray, Array.size_setIfInBounds, wv_length, hl]; assumption); intro WY hY; have hBY := Below.trans hBY (hY.below (Nat.le_refl _)); have r2d := Row.upd r2d hY hne2) | (go_simp; (first | (go_at_call 102; refine (c_round _ _ _ _ _).mono ?_; rintro e w' ⟨rfl, rfl⟩; unfold qtup) | skip))); refine hK _ _ ?_ ?_; (show (But W3.heap.size g1) _ _; (first | exact hdr2 | assumption | exact (wayBut _ _).refl _ | exact (wayB _).refl _ | exact Below.refl _ _ | exact ⟨rfl, rfl, rfl, Nat.le_refl _, fun _ _ => rfl⟩ | exact but_set _ _ _ _ _ | exact but_drew (but_set _ _ _ _ _) | exact but_upd (by assumption) | exact but_below (by assumption) | exact belowB_alloc (by first | omega | (simp; done) | (simp; omega)) _ | exact belowB_mono (by first | omega | (simp; done) | (simp; omega)) (by assumption) | (first | exact rg_alloc (by simp; omega) (by simp; omega) _ | exact FR.of_below (below_alloc (Below.refl _ _) _) (by first | assumption | (simp; omega)) | exact DR.of_below (below_alloc (Below.refl _ _) _) (by first | assumption | (simp; omega))))); clear hK; try simp only [Act.put, List.setIfInBounds_toArray, List.set_cons_zero, List.set_cons_succ])); (first | (apply linN_free; (simp only [List.getElem?_toArray, List.getElem?_cons_succ, List.getElem?_cons_zero]; rfl); (rfl); (intro w'; (first | (go_simp; done) | (go_simp; with_reducible rfl) | (go_simp; go_bits; with_reducible rfl) | (go_simp; go_bits; done))); try simp only [Act.put, List.setIfInBounds_toArray, List.set_cons_zero, List.set_cons_succ]) | (apply linN_freeSkip; (simp only [List.getElem?_toArray, List.getElem?_cons_succ, List.getElem?_cons_zero]; rfl); (rfl); try simp only [Act.put, List.setIfInBounds_toArray, List.set_cons_zero, List.set_cons_succ])); (first | (apply linN_pass (wayBut _ _) (wayB _); (simp only [List.getElem?_toArray, List.getElem?_cons_succ, List.getElem?_cons_zero]; rfl); (rfl); try simp only [Act.put, List.setIfInBounds_toArray, List.set_cons_zero, List.set_cons_succ]) | (apply linN_op; (simp only [List.getElem?_toArray, List.getElem?_cons_succ, List.getElem?_cons_zero]; rfl); (rfl); intro K hK; (first | (apply wp_storeY; rfl; rfl; (focus (go_simp; try rfl)); kernel_rfl; rfl; rfl; (first | exact hY.row | exact r1d); (simp only [List.size_toArray, Array.size_setIfInBounds, wv_length, hl]; assumption); intro WY hY; have hBY := Below.trans hBY (hY.below (Nat.le_refl _)); have r2d := Row.upd r2d hY hne2) | (go_simp; (first | (go_at_call 102; refine (c_round _ _ _ _ _).mono ?_; rintro e w' ⟨rfl, rfl⟩; unfold qtup) | skip))); refine hK _ _ ?_ ?_; (show (But W3.heap.size g1) _ _; (first | exact hdr2 | assumption | exact (wayBut _ _).refl _ | exact (wayB _).refl _ | exact Below.refl _ _ | exact ⟨rfl, rfl, rfl, Nat.le_refl _, fun _ _ => rfl⟩ | exact but_set _ _ _ _ _ | exact but_drew (but_set _ _ _ _ _) | exact but_upd (by assumption) | exact but_below (by assumption) | exact belowB_alloc (by first | omega | (simp; done) | (simp; omega)) _ | exact belowB_mono (by first | omega | (simp; done) | (simp; omega)) (by assumption) | (first | exact rg_alloc (by simp; omega) (by simp; omega) _ | exact FR.of_below (below_alloc (Below.refl _ _) _) (by first | assumption | (simp; omega)) | exact DR.of_below (below_alloc (Below.refl _ _) _) (by first | assumption | (simp; omega))))); clear hK; try simp only [Act.put, List.setIfInBounds_toArray, List.set_cons_zero, List.set_cons_succ])); (first | (apply linN_free; (simp only [List.getElem?_toArray, List.getElem?_cons_succ, List.getElem?_cons_zero]; rfl); (rfl); (intro w'; (first | (go_simp; done) | (go_simp; with_reducible rfl) | (go_simp; go_bits; with_reducible rfl) | (go_simp; go_bits; done))); try simp only [Act.put, List.setIfInBounds_toArray, List.set_cons_zero, List.set_cons_succ]) | (apply linN_freeSkip; (simp only [List.getElem?_toArray, List.getElem?_cons_succ, List.getElem?_cons_zero]; rfl); (rfl); try simp only [Act.put, List.setIfInBounds_toArray, List.set_cons_zero, List.set_cons_succ])); (first | (apply linN_pass (wayBut _ _) (wayB _); (simp only [List.getElem?_toArray, List.getElem?_cons_succ, List.getElem?_cons_zero]; rfl); (rfl); try simp only [Act.put, List.setIfInBounds_toArray, List.set_cons_zero, List.set_cons_succ]) | (apply linN_op; (simp only [List.getElem?_toArray, List.getElem?_cons_succ, List.getElem?_cons_zero]; rfl); (rfl); intro K hK; (first | (apply wp_storeY; rfl; rfl; (focus (go_simp; try rfl)); kernel_rfl; rfl; rfl; (first | exact hY.row | exact r1d); (simp only [List.size_toArray, Array.size_setIfInBounds, wv_length, hl]; assumption); intro WY hY; have hBY := Below.trans hBY (hY.below (Nat.le_refl _)); have r2d := Row.upd r2d hY hne2) | (go_simp; (first | (go_at_call 102; refine (c_round _ _ _ _ _).mono ?_; rintro e w' ⟨rfl, rfl⟩; unfold qtup) | skip))); refine hK _ _ ?_ ?_; (exact trivial); clear hK; try simp only [Act.put, List.setIfInBounds_toArray, List.set_cons_zero, List.set_cons_succ])); refine linN_end ?_)
      have hrow := hY.row
      simp only [wv_set] at hrow
      rw [← HST.out] at hrow
      have hsz := hBY.size
      have hszY := hY.size
      clear hY r1 r2 h1 h2 c0 c1 c2 c3 d0 d1 d2 d3 f0 f1 f2 f3 hl r1d
      have hz2 := r2d.lt
      subst hg1
      go_wp2
      go_roundw
      case rel => exact ⟨k + 1, by omega, by go_num, hrow, r2d, hBY, by omega⟩
      case measure => simp [intOf]; omega
    · obtain rfl : k = 8 := by omega
      have hl : (qrows s 8).length = 16 := by rw [qrows_length, hS.out]
      have hw := wv_all (qrows s 8)
      go_wp2_with (first | (apply wpl_loadS (ty := 128); rfl; rfl; rfl; kernel_rfl; exact h1; (simp only [List.size_toArray, wv_length, hl]; kernel_rfl); simp only [Act.put, List.setIfInBounds_toArray, List.set_cons_zero, List.set_cons_succ]) | (apply wpl_storeX; rfl; rfl; rfl; rfl; exact h2; (simp only [List.size_toArray, wv_length, hl]; kernel_rfl); (simp only [List.size_toArray, wv_length, hl]; rfl); exact hw; intro W6 hW6; simp only [Act.put]))
      refine bodyPost_ret (results_cell1 rfl rfl (run_loadRow _ _ _ _ _ 0 hW6.row (by simp only [List.size_toArray, wv_length, hl]; kernel_rfl) (by kernel_rfl))) rfl ⟨rfl, hB.trans (hW6.below (by omega))⟩
end Go.Proofs.Ytmdmhjcdaejlkaa

/- The reference's double round. -/
set_option linter.unusedVariables false
set_option linter.unusedSimpArgs false
namespace Go.Proofs.Ytmdmhjcdaejlkaa
open Go.RowKit

set_option maxHeartbeats 1000000 in
set_option maxRecDepth 100000 in
theorem c_rQuarters (w : World) : Calls Try.prog 99 #[] w fun e w' => e = .returned (.agg placesV.toArray) ∧ Below w.heap.size w w' := by
  have r0 := Row.new w (plRow 0).toArray 135
  have hall := placesV_all
  go_enter Try.func99, Try.ntmps99
  go_wp2_with (apply wpl_storeX (cells := placesV.toArray); rfl; rfl; rfl; rfl; exact r0; kernel_rfl; rfl; exact hall; intro W6 hW6; simp only [Act.put])
  refine bodyPost_ret (results_cell1 rfl rfl (run_loadRow _ _ _ _ _ 0 hW6.row (by kernel_rfl) (by kernel_rfl))) rfl ⟨rfl, (below_alloc (Below.refl _ _) _).trans (hW6.below (Nat.le_refl _))⟩
theorem quarter_cells {W : World} {g : Nat} {T : TypeId} (h : Row W g placesV.toArray T) {k p0 p1 p2 p3 : Nat} (hq : quarterL[k]? = some (p0, p1, p2, p3)) :
    ∀ j v, [Value.int .i64 (p0 : Int), .int .i64 (p1 : Int), .int .i64 (p2 : Int), .int .i64 (p3 : Int)][j]? = some v → W.cell? ((⟨g, k * 4, none⟩ : Addr).add j) = some v := by
  intro j v hv
  rw [ad_none]
  have hk : k < 8 := (List.getElem?_eq_some_iff.1 hq).1
  have hj : j < 4 := (List.getElem?_eq_some_iff.1 hv).1
  refine h.cell _ ?_
  rw [← hv]
  obtain rfl | rfl | rfl | rfl | rfl | rfl | rfl | rfl : k = 0 ∨ k = 1 ∨ k = 2 ∨ k = 3 ∨ k = 4 ∨ k = 5 ∨ k = 6 ∨ k = 7 := by omega
  all_goals
    cases hq
    obtain rfl | rfl | rfl | rfl : j = 0 ∨ j = 1 ∨ j = 2 ∨ j = 3 := by omega
    all_goals rfl
set_option maxHeartbeats 4000000 in
set_option maxRecDepth 100000 in
theorem c_rDouble (s : List Int) (hs : s.length = 16) (w : World) : Calls Try.prog 95 #[.agg (wv s).toArray] w fun e w' => e = .returned (.agg (wv (doubleL s)).toArray) ∧ Below w.heap.size w w' := by
  have hS := Lib.hid hs
  clear hs
  go_enter Try.func95, Try.ntmps95
  go_wp2_with fail
  refine (c_rQuarters _).mono ?_
  rintro e w1 ⟨rfl, hB⟩
  have hr1 := (Row.new w (wv s).toArray 128).alloc (.cells (wv (List.replicate 16 0)).toArray 128)
  have hr2 := Row.new (w.alloc (.cells (wv s).toArray 128)) (wv (List.replicate 16 0)).toArray 128
  have hs1 : (w.alloc (.cells (wv s).toArray 128)).heap.size = w.heap.size + 1 := by simp
  have hs2 : ((w.alloc (.cells (wv s).toArray 128)).alloc (.cells (wv (List.replicate 16 0)).toArray 128)).heap.size = w.heap.size + 2 := by simp
  have hB' : Below (w.heap.size + 2) ((w.alloc (.cells (wv s).toArray 128)).alloc (.cells (wv (List.replicate 16 0)).toArray 128)) w1 := by rw [← hs2]; exact hB
  clear hB
  rw [hs1] at hr2
  have h1 := hr1.below hB' (by omega)
  have h2 := hr2.below hB' (by omega)
  have hBw : Below w.heap.size w w1 := (below_alloc (below_alloc (Below.refl _ _) _) _).trans (hB'.mono (by omega))
  have hsz := hB'.size
  rw [hs2] at hsz
  clear hB' hs1 hs2 hr1 hr2
  go_wp2_with (apply wpl_storeN; rfl; rfl; rfl; (first | rfl | simp); rfl; kernel_rfl; rfl; exact placesV_all; simp only [Act.put])
  have h3 := Row.new w1 placesV.toArray 135
  have hq1 : w.heap.size + 2 ≤ w1.heap.size := hsz
  replace h1 := h1.alloc (.cells placesV.toArray 135)
  replace h2 := h2.alloc (.cells placesV.toArray 135)
  replace hBw := hBw.trans (belowB_alloc (B := w.heap.size) (w := w1) (by omega) (.cells placesV.toArray 135))
  generalize w1.alloc (.cells placesV.toArray 135) = w2 at *
  generalize w1.heap.size = gq at *
  go_loopw [4] (fun s4 wr => ∃ k : Nat, k ≤ 8 ∧ s4 = .int .i64 (k : Int) ∧ Row wr w.heap.size (wv (qrows s k)).toArray 128 ∧ Row wr (w.heap.size + 1) (wv (List.replicate 16 0)).toArray 128 ∧ Row wr gq placesV.toArray 135 ∧ Below w.heap.size w wr) (fun i _ => (8 - intOf i).toNat)
  case atStart => exact ⟨0, by omega, rfl, h1, h2, h3, hBw⟩
  case round =>
    clear h1 h2 h3 hBw hsz
    obtain ⟨k, hk, rfl, h1, h2, h3, hB⟩ := hrel
    by_cases hlt : k < 8
    · obtain ⟨p0, p1, p2, p3, hq, -, l0, l1, l2, l3⟩ := quarter_at hlt
      have hc := quarter_cells h3 hq
      go_upto_region 6 with (apply wpl_loadR (ty := 134) [.int .i64 (p0 : Int), .int .i64 (p1 : Int), .int .i64 (p2 : Int), .int .i64 (p3 : Int)]; rfl; rfl; rfl; kernel_rfl; kernel_rfl; exact hc; simp only [Act.put, List.setIfInBounds_toArray, List.set_cons_zero, List.set_cons_succ])
      have r4 := Row.new wr #[.int .i64 (p0 : Int), .int .i64 (p1 : Int), .int .i64 (p2 : Int), .int .i64 (p3 : Int)] 134
      have r1 := h1.alloc (.cells #[.int .i64 (p0 : Int), .int .i64 (p1 : Int), .int .i64 (p2 : Int), .int .i64 (p3 : Int)] 134)
      have r2 := h2.alloc (.cells #[.int .i64 (p0 : Int), .int .i64 (p1 : Int), .int .i64 (p2 : Int), .int .i64 (p3 : Int)] 134)
      have r3 := h3.alloc (.cells #[.int .i64 (p0 : Int), .int .i64 (p1 : Int), .int .i64 (p2 : Int), .int .i64 (p3 : Int)] 134)
      have hz := h3.lt
      have hB3 := hB.trans (belowB_alloc (B := w.heap.size) (w := wr) (by omega) (.cells #[.int .i64 (p0 : Int), .int .i64 (p1 : Int), .int .i64 (p2 : Int), .int .i64 (p3 : Int)] 134))
      have hz3 : (wr.alloc (.cells #[.int .i64 (p0 : Int), .int .i64 (p1 : Int), .int .i64 (p2 : Int), .int .i64 (p3 : Int)] 134)).heap.size = wr.heap.size + 1 := by simp
      generalize wr.alloc (.cells #[.int .i64 (p0 : Int), .int .i64 (p1 : Int), .int .i64 (p2 : Int), .int .i64 (p3 : Int)] 134) = W3 at *
      generalize hg4 : wr.heap.size = g4 at *
      generalize hg1 : w.heap.size = g1 at *
      have hl : (qrows s k).length = 16 := by rw [qrows_length, hS.out]
      have c0 := r4.cell 0 rfl
      have c1 := r4.cell 1 rfl
      have c2 := r4.cell 2 rfl
      have c3 := r4.cell 3 rfl
      have d0 := wv_cell r1 (j := p0) (by omega)
      have d1 := wv_cell r1 (j := p1) (by omega)
      have d2 := wv_cell r1 (j := p2) (by omega)
      have d3 := wv_cell r1 (j := p3) (by omega)
      have hst : qrows s (k + 1) = ((((qrows s k).set p0 (qA2 ((qrows s k).getD p0 0) ((qrows s k).getD p1 0) ((qrows s k).getD p2 0) ((qrows s k).getD p3 0))).set p1 (qB2 ((qrows s k).getD p0 0) ((qrows s k).getD p1 0) ((qrows s k).getD p2 0) ((qrows s k).getD p3 0))).set p2 (qC2 ((qrows s k).getD p0 0) ((qrows s k).getD p1 0) ((qrows s k).getD p2 0) ((qrows s k).getD p3 0))).set p3 (qD2 ((qrows s k).getD p0 0) ((qrows s k).getD p1 0) ((qrows s k).getD p2 0) ((qrows s k).getD p3 0)) := qrows_succ s k _ hq
      generalize (qrows s k).getD p0 0 = x0 at *
      generalize (qrows s k).getD p1 0 = x1 at *
      generalize (qrows s k).getD p2 0 = x2 at *
      generalize (qrows s k).getD p3 0 = x3 at *
      have HST := Lib.hid hst
      clear hst hc
      have e41 : g4 ≠ g1 := by omega
      have eq1 : gq ≠ g1 := by omega
      have b1 : g1 < W3.heap.size := by omega
      have b4 : g4 < W3.heap.size := by omega
      have m0 : (p0 : Int) < 16 := by omega
      have m1 : (p1 : Int) < 16 := by omega
      have m2 : (p2 : Int) < 16 := by omega
      have m3 : (p3 : Int) < 16 := by omega
      (refine wp_region_linN (Below W3.heap.size) (Below W3.heap.size) (wayB _) (wayB _) (fun _ _ h => h) (.free 0 (.hot 1 (.free 2 (.hot 3 (.free 4 (.hot 5 (.free 6 (.hot 7 (.free 8 (.hot 9 (.free 10 (.hot 11 (.free 12 (.hot 13 (.free 14 (.hot 15 (.op 16 [(3, 16), (2, 3), (1, 2), (7, 16), (6, 7), (5, 6), (11, 16), (10, 11), (9, 10), (15, 16), (14, 15), (13, 14)] [] [] (.free 17 (.free 18 (.free 19 (.free 20 (.free 21 (.free 22 (.free 23 (.free 24 (.free 25 .nil)))))))))))))))))))))))))) rfl (by kernel_rfl) (by kernel_rfl) (fun _ _ _ _ _ h => h) ?_; (first | (apply linN_free; (simp only [List.getElem?_toArray, List.getElem?_cons_succ, List.getElem?_cons_zero]; rfl); (rfl); (intro w'; (first | (go_simp; done) | (go_simp; with_reducible rfl) | (go_simp; go_bits; with_reducible rfl) | (go_simp; go_bits; done))); try simp only [Act.put, List.setIfInBounds_toArray, List.set_cons_zero, List.set_cons_succ]) | (apply linN_freeSkip; (simp only [List.getElem?_toArray, List.getElem?_cons_succ, List.getElem?_cons_zero]; rfl); (rfl); try simp only [Act.put, List.setIfInBounds_toArray, List.set_cons_zero, List.set_cons_succ])); (first | (apply linN_hot; (simp only [List.getElem?_toArray, List.getElem?_cons_succ, List.getElem?_cons_zero]; rfl); (rfl); (intro w' hb'; (try have k_c0 := keepB (by first | assumption | omega | (simp; done) | (simp; omega)) hb' c0); (try have k_c1 := keepB (by first | assumption | omega | (simp; done) | (simp; omega)) hb' c1); (try have k_c2 := keepB (by first | assumption | omega | (simp; done) | (simp; omega)) hb' c2); (try have k_c3 := keepB (by first | assumption | omega | (simp; done) | (simp; omega)) hb' c3); (try have k_d0 := keepB (by first | assumption | omega | (simp; done) | (simp; omega)) hb' d0); (try have k_d1 := keepB (by first | assumption | omega | (simp; done) | (simp; omega)) hb' d1); (try have k_d2 := keepB (by first | assumption | omega | (simp; done) | (simp; omega)) hb' d2); (try have k_d3 := keepB (by first | assumption | omega | (simp; done) | (simp; omega)) hb' d3); (first | (go_simp; done) | (go_simp; with_reducible rfl) | (go_simp; go_bits; with_reducible rfl) | (go_simp; go_bits; done))); try simp only [Act.put, List.setIfInBounds_toArray, List.set_cons_zero, List.set_cons_succ]) | (apply linN_hotSkip; (simp only [List.getElem?_toArray, List.getElem?_cons_succ, List.getElem?_cons_zero]; rfl); (rfl); try simp only [Act.put, List.setIfInBounds_toArray, List.set_cons_zero, List.set_cons_succ])); (first | (apply linN_free; (simp only [List.getElem?_toArray, List.getElem?_cons_succ, List.getElem?_cons_zero]; rfl); (rfl); (intro w'; (first | (go_simp; done) | (go_simp; with_reducible rfl) | (go_simp; go_bits; with_reducible rfl) | (go_simp; go_bits; done))); try simp only [Act.put, List.setIfInBounds_toArray, List.set_cons_zero, List.set_cons_succ]) | (apply linN_freeSkip; (simp only [List.getElem?_toArray, List.getElem?_cons_succ, List.getElem?_cons_zero]; rfl); (rfl); try simp only [Act.put, List.setIfInBounds_toArray, List.set_cons_zero, List.set_cons_succ])); (first | (apply linN_hot; (simp only [List.getElem?_toArray, List.getElem?_cons_succ, List.getElem?_cons_zero]; rfl); (rfl); (intro w' hb'; (try have k_c0 := keepB (by first | assumption | omega | (simp; done) | (simp; omega)) hb' c0); (try have k_c1 := keepB (by first | assumption | omega | (simp; done) | (simp; omega)) hb' c1); (try have k_c2 := keepB (by first | assumption | omega | (simp; done) | (simp; omega)) hb' c2); (try have k_c3 := keepB (by first | assumption | omega | (simp; done) | (simp; omega)) hb' c3); (try have k_d0 := keepB (by first | assumption | omega | (simp; done) | (simp; omega)) hb' d0); (try have k_d1 := keepB (by first | assumption | omega | (simp; done) | (simp; omega)) hb' d1); (try have k_d2 := keepB (by first | assumption | omega | (simp; done) | (simp; omega)) hb' d2); (try have k_d3 := keepB (by first | assumption | omega | (simp; done) | (simp; omega)) hb' d3); (first | (go_simp; done) | (go_simp; with_reducible rfl) | (go_simp; go_bits; with_reducible rfl) | (go_simp; go_bits; done))); try simp only [Act.put, List.setIfInBounds_toArray, List.set_cons_zero, List.set_cons_succ]) | (apply linN_hotSkip; (simp only [List.getElem?_toArray, List.getElem?_cons_succ, List.getElem?_cons_zero]; rfl); (rfl); try simp only [Act.put, List.setIfInBounds_toArray, List.set_cons_zero, List.set_cons_succ])); (first | (apply linN_free; (simp only [List.getElem?_toArray, List.getElem?_cons_succ, List.getElem?_cons_zero]; rfl); (rfl); (intro w'; (first | (go_simp; done) | (go_simp; with_reducible rfl) | (go_simp; go_bits; with_reducible rfl) | (go_simp; go_bits; done))); try simp only [Act.put, List.setIfInBounds_toArray, List.set_cons_zero, List.set_cons_succ]) | (apply linN_freeSkip; (simp only [List.getElem?_toArray, List.getElem?_cons_succ, List.getElem?_cons_zero]; rfl); (rfl); try simp only [Act.put, List.setIfInBounds_toArray, List.set_cons_zero, List.set_cons_succ])); (first | (apply linN_hot; (simp only [List.getElem?_toArray, List.getElem?_cons_succ, List.getElem?_cons_zero]; rfl); (rfl); (intro w' hb'; (try have k_c0 := keepB (by first | assumption | omega | (simp; done) | (simp; omega)) hb' c0); (try have k_c1 := keepB (by first | assumption | omega | (simp; done) | (simp; omega)) hb' c1); (try have k_c2 := keepB (by first | assumption | omega | (simp; done) | (simp; omega)) hb' c2); (try have k_c3 := keepB (by first | assumption | omega | (simp; done) | (simp; omega)) hb' c3); (try have k_d0 := keepB (by first | assumption | omega | (simp; done) | (simp; omega)) hb' d0); (try have k_d1 := keepB (by first | assumption | omega | (simp; done) | (simp; omega)) hb' d1); (try have k_d2 := keepB (by first | assumption | omega | (simp; done) | (simp; omega)) hb' d2); (try have k_d3 := keepB (by first | assumption | omega | (simp; done) | (simp; omega)) hb' d3); (first | (go_simp; done) | (go_simp; with_reducible rfl) | (go_simp; go_bits; with_reducible rfl) | (go_simp; go_bits; done))); try simp only [Act.put, List.setIfInBounds_toArray, List.set_cons_zero, List.set_cons_succ]) | (apply linN_hotSkip; (simp only [List.getElem?_toArray, List.getElem?_cons_succ, List.getElem?_cons_zero]; rfl); (rfl); try simp only [Act.put, List.setIfInBounds_toArray, List.set_cons_zero, List.set_cons_succ])); (first | (apply linN_free; (simp only [List.getElem?_toArray, List.getElem?_cons_succ, List.getElem?_cons_zero]; rfl); (rfl); (intro w'; (first | (go_simp; done) | (go_simp; with_reducible rfl) | (go_simp; go_bits; with_reducible rfl) | (go_simp; go_bits; done))); try simp only [Act.put, List.setIfInBounds_toArray, List.set_cons_zero, List.set_cons_succ]) | (apply linN_freeSkip; (simp only [List.getElem?_toArray, List.getElem?_cons_succ, List.getElem?_cons_zero]; rfl); (rfl); try simp only [Act.put, List.setIfInBounds_toArray, List.set_cons_zero, List.set_cons_succ])); (first | (apply linN_hot; (simp only [List.getElem?_toArray, List.getElem?_cons_succ, List.getElem?_cons_zero]; rfl); (rfl); (intro w' hb'; (try have k_c0 := keepB (by first | assumption | omega | (simp; done) | (simp; omega)) hb' c0); (try have k_c1 := keepB (by first | assumption | omega | (simp; done) | (simp; omega)) hb' c1); (try have k_c2 := keepB (by first | assumption | omega | (simp; done) | (simp; omega)) hb' c2); (try have k_c3 := keepB (by first | assumption | omega | (simp; done) | (simp; omega)) hb' c3); (try have k_d0 := keepB (by first | assumption | omega | (simp; done) | (simp; omega)) hb' d0); (try have k_d1 := keepB (by first | assumption | omega | (simp; done) | (simp; omega)) hb' d1); (try have k_d2 := keepB (by first | assumption | omega | (simp; done) | (simp; omega)) hb' d2); (try have k_d3 := keepB (by first | assumption | omega | (simp; done) | (simp; omega)) hb' d3); (first | (go_simp; done) | (go_simp; with_reducible rfl) | (go_simp; go_bits; with_reducible rfl) | (go_simp; go_bits; done))); try simp only [Act.put, List.setIfInBounds_toArray, List.set_cons_zero, List.set_cons_succ]) | (apply linN_hotSkip; (simp only [List.getElem?_toArray, List.getElem?_cons_succ, List.getElem?_cons_zero]; rfl); (rfl); try simp only [Act.put, List.setIfInBounds_toArray, List.set_cons_zero, List.set_cons_succ])); (first | (apply linN_free; (simp only [List.getElem?_toArray, List.getElem?_cons_succ, List.getElem?_cons_zero]; rfl); (rfl); (intro w'; (first | (go_simp; done) | (go_simp; with_reducible rfl) | (go_simp; go_bits; with_reducible rfl) | (go_simp; go_bits; done))); try simp only [Act.put, List.setIfInBounds_toArray, List.set_cons_zero, List.set_cons_succ]) | (apply linN_freeSkip; (simp only [List.getElem?_toArray, List.getElem?_cons_succ, List.getElem?_cons_zero]; rfl); (rfl); try simp only [Act.put, List.setIfInBounds_toArray, List.set_cons_zero, List.set_cons_succ])); (first | (apply linN_hot; (simp only [List.getElem?_toArray, List.getElem?_cons_succ, List.getElem?_cons_zero]; rfl); (rfl); (intro w' hb'; (try have k_c0 := keepB (by first | assumption | omega | (simp; done) | (simp; omega)) hb' c0); (try have k_c1 := keepB (by first | assumption | omega | (simp; done) | (simp; omega)) hb' c1); (try have k_c2 := keepB (by first | assumption | omega | (simp; done) | (simp; omega)) hb' c2); (try have k_c3 := keepB (by first | assumption | omega | (simp; done) | (simp; omega)) hb' c3); (try have k_d0 := keepB (by first | assumption | omega | (simp; done) | (simp; omega)) hb' d0); (try have k_d1 := keepB (by first | assumption | omega | (simp; done) | (simp; omega)) hb' d1); (try have k_d2 := keepB (by first | assumption | omega | (simp; done) | (simp; omega)) hb' d2); (try have k_d3 := keepB (by first | assumption | omega | (simp; done) | (simp; omega)) hb' d3); (first | (go_simp; done) | (go_simp; with_reducible rfl) | (go_simp; go_bits; with_reducible rfl) | (go_simp; go_bits; done))); try simp only [Act.put, List.setIfInBounds_toArray, List.set_cons_zero, List.set_cons_succ]) | (apply linN_hotSkip; (simp only [List.getElem?_toArray, List.getElem?_cons_succ, List.getElem?_cons_zero]; rfl); (rfl); try simp only [Act.put, List.setIfInBounds_toArray, List.set_cons_zero, List.set_cons_succ])); (first | (apply linN_free; (simp only [List.getElem?_toArray, List.getElem?_cons_succ, List.getElem?_cons_zero]; rfl); (rfl); (intro w'; (first | (go_simp; done) | (go_simp; with_reducible rfl) | (go_simp; go_bits; with_reducible rfl) | (go_simp; go_bits; done))); try simp only [Act.put, List.setIfInBounds_toArray, List.set_cons_zero, List.set_cons_succ]) | (apply linN_freeSkip; (simp only [List.getElem?_toArray, List.getElem?_cons_succ, List.getElem?_cons_zero]; rfl); (rfl); try simp only [Act.put, List.setIfInBounds_toArray, List.set_cons_zero, List.set_cons_succ])); (first | (apply linN_hot; (simp only [List.getElem?_toArray, List.getElem?_cons_succ, List.getElem?_cons_zero]; rfl); (rfl); (intro w' hb'; (try have k_c0 := keepB (by first | assumption | omega | (simp; done) | (simp; omega)) hb' c0); (try have k_c1 := keepB (by first | assumption | omega | (simp; done) | (simp; omega)) hb' c1); (try have k_c2 := keepB (by first | assumption | omega | (simp; done) | (simp; omega)) hb' c2); (try have k_c3 := keepB (by first | assumption | omega | (simp; done) | (simp; omega)) hb' c3); (try have k_d0 := keepB (by first | assumption | omega | (simp; done) | (simp; omega)) hb' d0); (try have k_d1 := keepB (by first | assumption | omega | (simp; done) | (simp; omega)) hb' d1); (try have k_d2 := keepB (by first | assumption | omega | (simp; done) | (simp; omega)) hb' d2); (try have k_d3 := keepB (by first | assumption | omega | (simp; done) | (simp; omega)) hb' d3); (first | (go_simp; done) | (go_simp; with_reducible rfl) | (go_simp; go_bits; with_reducible rfl) | (go_simp; go_bits; done))); try simp only [Act.put, List.setIfInBounds_toArray, List.set_cons_zero, List.set_cons_succ]) | (apply linN_hotSkip; (simp only [List.getElem?_toArray, List.getElem?_cons_succ, List.getElem?_cons_zero]; rfl); (rfl); try simp only [Act.put, List.setIfInBounds_toArray, List.set_cons_zero, List.set_cons_succ])); (first | (apply linN_free; (simp only [List.getElem?_toArray, List.getElem?_cons_succ, List.getElem?_cons_zero]; rfl); (rfl); (intro w'; (first | (go_simp; done) | (go_simp; with_reducible rfl) | (go_simp; go_bits; with_reducible rfl) | (go_simp; go_bits; done))); try simp only [Act.put, List.setIfInBounds_toArray, List.set_cons_zero, List.set_cons_succ]) | (apply linN_freeSkip; (simp only [List.getElem?_toArray, List.getElem?_cons_succ, List.getElem?_cons_zero]; rfl); (rfl); try simp only [Act.put, List.setIfInBounds_toArray, List.set_cons_zero, List.set_cons_succ])); (first | (apply linN_hot; (simp only [List.getElem?_toArray, List.getElem?_cons_succ, List.getElem?_cons_zero]; rfl); (rfl); (intro w' hb'; (try have k_c0 := keepB (by first | assumption | omega | (simp; done) | (simp; omega)) hb' c0); (try have k_c1 := keepB (by first | assumption | omega | (simp; done) | (simp; omega)) hb' c1); (try have k_c2 := keepB (by first | assumption | omega | (simp; done) | (simp; omega)) hb' c2); (try have k_c3 := keepB (by first | assumption | omega | (simp; done) | (simp; omega)) hb' c3); (try have k_d0 := keepB (by first | assumption | omega | (simp; done) | (simp; omega)) hb' d0); (try have k_d1 := keepB (by first | assumption | omega | (simp; done) | (simp; omega)) hb' d1); (try have k_d2 := keepB (by first | assumption | omega | (simp; done) | (simp; omega)) hb' d2); (try have k_d3 := keepB (by first | assumption | omega | (simp; done) | (simp; omega)) hb' d3); (first | (go_simp; done) | (go_simp; with_reducible rfl) | (go_simp; go_bits; with_reducible rfl) | (go_simp; go_bits; done))); try simp only [Act.put, List.setIfInBounds_toArray, List.set_cons_zero, List.set_cons_succ]) | (apply linN_hotSkip; (simp only [List.getElem?_toArray, List.getElem?_cons_succ, List.getElem?_cons_zero]; rfl); (rfl); try simp only [Act.put, List.setIfInBounds_toArray, List.set_cons_zero, List.set_cons_succ])); (first | (apply linN_free; (simp only [List.getElem?_toArray, List.getElem?_cons_succ, List.getElem?_cons_zero]; rfl); (rfl); (intro w'; (first | (go_simp; done) | (go_simp; with_reducible rfl) | (go_simp; go_bits; with_reducible rfl) | (go_simp; go_bits; done))); try simp only [Act.put, List.setIfInBounds_toArray, List.set_cons_zero, List.set_cons_succ]) | (apply linN_freeSkip; (simp only [List.getElem?_toArray, List.getElem?_cons_succ, List.getElem?_cons_zero]; rfl); (rfl); try simp only [Act.put, List.setIfInBounds_toArray, List.set_cons_zero, List.set_cons_succ])); (first | (apply linN_hot; (simp only [List.getElem?_toArray, List.getElem?_cons_succ, List.getElem?_cons_zero]; rfl); (rfl); (intro w' hb'; (try have k_c0 := keepB (by first | assumption | omega | (simp; done) | (simp; omega)) hb' c0); (try have k_c1 := keepB (by first | assumption | omega | (simp; done) | (simp; omega)) hb' c1); (try have k_c2 := keepB (by first | assumption | omega | (simp; done) | (simp; omega)) hb' c2); (try have k_c3 := keepB (by first | assumption | omega | (simp; done) | (simp; omega)) hb' c3); (try have k_d0 := keepB (by first | assumption | omega | (simp; done) | (simp; omega)) hb' d0); (try have k_d1 := keepB (by first | assumption | omega | (simp; done) | (simp; omega)) hb' d1); (try have k_d2 := keepB (by first | assumption | omega | (simp; done) | (simp; omega)) hb' d2); (try have k_d3 := keepB (by first | assumption | omega | (simp; done) | (simp; omega)) hb' d3); (first | (go_simp; done) | (go_simp; with_reducible rfl) | (go_simp; go_bits; with_reducible rfl) | (go_simp; go_bits; done))); try simp only [Act.put, List.setIfInBounds_toArray, List.set_cons_zero, List.set_cons_succ]) | (apply linN_hotSkip; (simp only [List.getElem?_toArray, List.getElem?_cons_succ, List.getElem?_cons_zero]; rfl); (rfl); try simp only [Act.put, List.setIfInBounds_toArray, List.set_cons_zero, List.set_cons_succ])); (first | (apply linN_pass (wayB _) (wayB _); (simp only [List.getElem?_toArray, List.getElem?_cons_succ, List.getElem?_cons_zero]; rfl); (rfl); try simp only [Act.put, List.setIfInBounds_toArray, List.set_cons_zero, List.set_cons_succ]) | (apply linN_op; (simp only [List.getElem?_toArray, List.getElem?_cons_succ, List.getElem?_cons_zero]; rfl); (rfl); intro K hK; (first | (go_simp; (first | (go_at_call 100; refine (c_rRound _ _ _ _ _).mono ?_; rintro e w' ⟨rfl, rfl⟩; unfold qtup) | skip))); refine hK _ _ ?_ ?_; (exact trivial); clear hK; try simp only [Act.put, List.setIfInBounds_toArray, List.set_cons_zero, List.set_cons_succ])); (first | (apply linN_free; (simp only [List.getElem?_toArray, List.getElem?_cons_succ, List.getElem?_cons_zero]; rfl); (rfl); (intro w'; (first | (go_simp; done) | (go_simp; with_reducible rfl) | (go_simp; go_bits; with_reducible rfl) | (go_simp; go_bits; done))); try simp only [Act.put, List.setIfInBounds_toArray, List.set_cons_zero, List.set_cons_succ]) | (apply linN_freeSkip; (simp only [List.getElem?_toArray, List.getElem?_cons_succ, List.getElem?_cons_zero]; rfl); (rfl); try simp only [Act.put, List.setIfInBounds_toArray, List.set_cons_zero, List.set_cons_succ])); (first | (apply linN_free; (simp only [List.getElem?_toArray, List.getElem?_cons_succ, List.getElem?_cons_zero]; rfl); (rfl); (intro w'; (first | (go_simp; done) | (go_simp; with_reducible rfl) | (go_simp; go_bits; with_reducible rfl) | (go_simp; go_bits; done))); try simp only [Act.put, List.setIfInBounds_toArray, List.set_cons_zero, List.set_cons_succ]) | (apply linN_freeSkip; (simp only [List.getElem?_toArray, List.getElem?_cons_succ, List.getElem?_cons_zero]; rfl); (rfl); try simp only [Act.put, List.setIfInBounds_toArray, List.set_cons_zero, List.set_cons_succ])); (first | (apply linN_free; (simp only [List.getElem?_toArray, List.getElem?_cons_succ, List.getElem?_cons_zero]; rfl); (rfl); (intro w'; (first | (go_simp; done) | (go_simp; with_reducible rfl) | (go_simp; go_bits; with_reducible rfl) | (go_simp; go_bits; done))); try simp only [Act.put, List.setIfInBounds_toArray, List.set_cons_zero, List.set_cons_succ]) | (apply linN_freeSkip; (simp only [List.getElem?_toArray, List.getElem?_cons_succ, List.getElem?_cons_zero]; rfl); (rfl); try simp only [Act.put, List.setIfInBounds_toArray, List.set_cons_zero, List.set_cons_succ])); (first | (apply linN_free; (simp only [List.getElem?_toArray, List.getElem?_cons_succ, List.getElem?_cons_zero]; rfl); (rfl); (intro w'; (first | (go_simp; done) | (go_simp; with_reducible rfl) | (go_simp; go_bits; with_reducible rfl) | (go_simp; go_bits; done))); try simp only [Act.put, List.setIfInBounds_toArray, List.set_cons_zero, List.set_cons_succ]) | (apply linN_freeSkip; (simp only [List.getElem?_toArray, List.getElem?_cons_succ, List.getElem?_cons_zero]; rfl); (rfl); try simp only [Act.put, List.setIfInBounds_toArray, List.set_cons_zero, List.set_cons_succ])); (first | (apply linN_free; (simp only [List.getElem?_toArray, List.getElem?_cons_succ, List.getElem?_cons_zero]; rfl); (rfl); (intro w'; (first | (go_simp; done) | (go_simp; with_reducible rfl) | (go_simp; go_bits; with_reducible rfl) | (go_simp; go_bits; done))); try simp only [Act.put, List.setIfInBounds_toArray, List.set_cons_zero, List.set_cons_succ]) | (apply linN_freeSkip; (simp only [List.getElem?_toArray, List.getElem?_cons_succ, List.getElem?_cons_zero]; rfl); (rfl); try simp only [Act.put, List.setIfInBounds_toArray, List.set_cons_zero, List.set_cons_succ])); (first | (apply linN_free; (simp only [List.getElem?_toArray, List.getElem?_cons_succ, List.getElem?_cons_zero]; rfl); (rfl); (intro w'; (first | (go_simp; done) | (go_simp; with_reducible rfl) | (go_simp; go_bits; with_reducible rfl) | (go_simp; go_bits; done))); try simp only [Act.put, List.setIfInBounds_toArray, List.set_cons_zero, List.set_cons_succ]) | (apply linN_freeSkip; (simp only [List.getElem?_toArray, List.getElem?_cons_succ, List.getElem?_cons_zero]; rfl); (rfl); try simp only [Act.put, List.setIfInBounds_toArray, List.set_cons_zero, List.set_cons_succ])); (first | (apply linN_free; (simp only [List.getElem?_toArray, List.getElem?_cons_succ, List.getElem?_cons_zero]; rfl); (rfl); (intro w'; (first | (go_simp; done) | (go_simp; with_reducible rfl) | (go_simp; go_bits; with_reducible rfl) | (go_simp; go_bits; done))); try simp only [Act.put, List.setIfInBounds_toArray, List.set_cons_zero, List.set_cons_succ]) | (apply linN_freeSkip; (simp only [List.getElem?_toArray, List.getElem?_cons_succ, List.getElem?_cons_zero]; rfl); (rfl); try simp only [Act.put, List.setIfInBounds_toArray, List.set_cons_zero, List.set_cons_succ])); (first | (apply linN_free; (simp only [List.getElem?_toArray, List.getElem?_cons_succ, List.getElem?_cons_zero]; rfl); (rfl); (intro w'; (first | (go_simp; done) | (go_simp; with_reducible rfl) | (go_simp; go_bits; with_reducible rfl) | (go_simp; go_bits; done))); try simp only [Act.put, List.setIfInBounds_toArray, List.set_cons_zero, List.set_cons_succ]) | (apply linN_freeSkip; (simp only [List.getElem?_toArray, List.getElem?_cons_succ, List.getElem?_cons_zero]; rfl); (rfl); try simp only [Act.put, List.setIfInBounds_toArray, List.set_cons_zero, List.set_cons_succ])); (first | (apply linN_free; (simp only [List.getElem?_toArray, List.getElem?_cons_succ, List.getElem?_cons_zero]; rfl); (rfl); (intro w'; (first | (go_simp; done) | (go_simp; with_reducible rfl) | (go_simp; go_bits; with_reducible rfl) | (go_simp; go_bits; done))); try simp only [Act.put, List.setIfInBounds_toArray, List.set_cons_zero, List.set_cons_succ]) | (apply linN_freeSkip; (simp only [List.getElem?_toArray, List.getElem?_cons_succ, List.getElem?_cons_zero]; rfl); (rfl); try simp only [Act.put, List.setIfInBounds_toArray, List.set_cons_zero, List.set_cons_succ])); refine linN_end ?_)
      clear d0 d1 d2 d3
      go_upto_region 7 with fail
      have hBY := below_drew (below_drew hB3)
      have r1d : Row W3.drew.drew g1 _ _ := r1
      have r2d : Row W3.drew.drew (g1 + 1) _ _ := r2
      have r3d : Row W3.drew.drew gq _ _ := r3
      have hne2 : g1 + 1 ≠ g1 := by omega
      (refine wp_region_linN (But W3.heap.size g1) (Below W3.heap.size) (wayBut _ _) (wayB _) (fun _ _ h => but_below h) (.free 0 (.cold 1 (.free 2 (.cold 3 (.free 4 (.cold 5 (.free 6 (.cold 7 (.free 8 (.free 9 (.free 10 (.free 11 (.free 12 (.op 13 [(1, 13)] [] [3, 5, 7] (.free 14 (.op 15 [(3, 15)] [] [5, 7] (.free 16 (.op 17 [(5, 17)] [] [7] (.free 18 (.op 19 [(7, 19)] [] [] .nil)))))))))))))))))))) rfl (by kernel_rfl) (by kernel_rfl) (fun _ _ _ _ _ h => h) ?_; (first | (apply linN_free; (simp only [List.getElem?_toArray, List.getElem?_cons_succ, List.getElem?_cons_zero]; rfl); (rfl); (intro w'; (first | (go_simp; done) | (go_simp; with_reducible rfl) | (go_simp; go_bits; with_reducible rfl) | (go_simp; go_bits; done))); try simp only [Act.put, List.setIfInBounds_toArray, List.set_cons_zero, List.set_cons_succ]) | (apply linN_freeSkip; (simp only [List.getElem?_toArray, List.getElem?_cons_succ, List.getElem?_cons_zero]; rfl); (rfl); try simp only [Act.put, List.setIfInBounds_toArray, List.set_cons_zero, List.set_cons_succ])); (first | (apply linN_cold; (simp only [List.getElem?_toArray, List.getElem?_cons_succ, List.getElem?_cons_zero]; rfl); (rfl); (intro w' hb'; (try have k_c0 := But.cell hb' (by first | assumption | omega | (simp; done) | (simp; omega)) (by first | assumption | omega | (simp; done) | (simp; omega)) c0); (try have k_c1 := But.cell hb' (by first | assumption | omega | (simp; done) | (simp; omega)) (by first | assumption | omega | (simp; done) | (simp; omega)) c1); (try have k_c2 := But.cell hb' (by first | assumption | omega | (simp; done) | (simp; omega)) (by first | assumption | omega | (simp; done) | (simp; omega)) c2); (try have k_c3 := But.cell hb' (by first | assumption | omega | (simp; done) | (simp; omega)) (by first | assumption | omega | (simp; done) | (simp; omega)) c3); (first | (go_simp; done) | (go_simp; with_reducible rfl) | (go_simp; go_bits; with_reducible rfl) | (go_simp; go_bits; done))); try simp only [Act.put, List.setIfInBounds_toArray, List.set_cons_zero, List.set_cons_succ]) | (apply linN_coldSkip; (simp only [List.getElem?_toArray, List.getElem?_cons_succ, List.getElem?_cons_zero]; rfl); (rfl); try simp only [Act.put, List.setIfInBounds_toArray, List.set_cons_zero, List.set_cons_succ])); (first | (apply linN_free; (simp only [List.getElem?_toArray, List.getElem?_cons_succ, List.getElem?_cons_zero]; rfl); (rfl); (intro w'; (first | (go_simp; done) | (go_simp; with_reducible rfl) | (go_simp; go_bits; with_reducible rfl) | (go_simp; go_bits; done))); try simp only [Act.put, List.setIfInBounds_toArray, List.set_cons_zero, List.set_cons_succ]) | (apply linN_freeSkip; (simp only [List.getElem?_toArray, List.getElem?_cons_succ, List.getElem?_cons_zero]; rfl); (rfl); try simp only [Act.put, List.setIfInBounds_toArray, List.set_cons_zero, List.set_cons_succ])); (first | (apply linN_cold; (simp only [List.getElem?_toArray, List.getElem?_cons_succ, List.getElem?_cons_zero]; rfl); (rfl); (intro w' hb'; (try have k_c0 := But.cell hb' (by first | assumption | omega | (simp; done) | (simp; omega)) (by first | assumption | omega | (simp; done) | (simp; omega)) c0); (try have k_c1 := But.cell hb' (by first | assumption | omega | (simp; done) | (simp; omega)) (by first | assumption | omega | (simp; done) | (simp; omega)) c1); (try have k_c2 := But.cell hb' (by first | assumption | omega | (simp; done) | (simp; omega)) (by first | assumption | omega | (simp; done) | (simp; omega)) c2); (try have k_c3 := But.cell hb' (by first | assumption | omega | (simp; done) | (simp; omega)) (by first | assumption | omega | (simp; done) | (simp; omega)) c3); (first | (go_simp; done) | (go_simp; with_reducible rfl) | (go_simp; go_bits; with_reducible rfl) | (go_simp; go_bits; done))); try simp only [Act.put, List.setIfInBounds_toArray, List.set_cons_zero, List.set_cons_succ]) | (apply linN_coldSkip; (simp only [List.getElem?_toArray, List.getElem?_cons_succ, List.getElem?_cons_zero]; rfl); (rfl); try simp only [Act.put, List.setIfInBounds_toArray, List.set_cons_zero, List.set_cons_succ])); (first | (apply linN_free; (simp only [List.getElem?_toArray, List.getElem?_cons_succ, List.getElem?_cons_zero]; rfl); (rfl); (intro w'; (first | (go_simp; done) | (go_simp; with_reducible rfl) | (go_simp; go_bits; with_reducible rfl) | (go_simp; go_bits; done))); try simp only [Act.put, List.setIfInBounds_toArray, List.set_cons_zero, List.set_cons_succ]) | (apply linN_freeSkip; (simp only [List.getElem?_toArray, List.getElem?_cons_succ, List.getElem?_cons_zero]; rfl); (rfl); try simp only [Act.put, List.setIfInBounds_toArray, List.set_cons_zero, List.set_cons_succ])); (first | (apply linN_cold; (simp only [List.getElem?_toArray, List.getElem?_cons_succ, List.getElem?_cons_zero]; rfl); (rfl); (intro w' hb'; (try have k_c0 := But.cell hb' (by first | assumption | omega | (simp; done) | (simp; omega)) (by first | assumption | omega | (simp; done) | (simp; omega)) c0); (try have k_c1 := But.cell hb' (by first | assumption | omega | (simp; done) | (simp; omega)) (by first | assumption | omega | (simp; done) | (simp; omega)) c1); (try have k_c2 := But.cell hb' (by first | assumption | omega | (simp; done) | (simp; omega)) (by first | assumption | omega | (simp; done) | (simp; omega)) c2); (try have k_c3 := But.cell hb' (by first | assumption | omega | (simp; done) | (simp; omega)) (by first | assumption | omega | (simp; done) | (simp; omega)) c3); (first | (go_simp; done) | (go_simp; with_reducible rfl) | (go_simp; go_bits; with_reducible rfl) | (go_simp; go_bits; done))); try simp only [Act.put, List.setIfInBounds_toArray, List.set_cons_zero, List.set_cons_succ]) | (apply linN_coldSkip; (simp only [List.getElem?_toArray, List.getElem?_cons_succ, List.getElem?_cons_zero]; rfl); (rfl); try simp only [Act.put, List.setIfInBounds_toArray, List.set_cons_zero, List.set_cons_succ])); (first | (apply linN_free; (simp only [List.getElem?_toArray, List.getElem?_cons_succ, List.getElem?_cons_zero]; rfl); (rfl); (intro w'; (first | (go_simp; done) | (go_simp; with_reducible rfl) | (go_simp; go_bits; with_reducible rfl) | (go_simp; go_bits; done))); try simp only [Act.put, List.setIfInBounds_toArray, List.set_cons_zero, List.set_cons_succ]) | (apply linN_freeSkip; (simp only [List.getElem?_toArray, List.getElem?_cons_succ, List.getElem?_cons_zero]; rfl); (rfl); try simp only [Act.put, List.setIfInBounds_toArray, List.set_cons_zero, List.set_cons_succ])); (first | (apply linN_cold; (simp only [List.getElem?_toArray, List.getElem?_cons_succ, List.getElem?_cons_zero]; rfl); (rfl); (intro w' hb'; (try have k_c0 := But.cell hb' (by first | assumption | omega | (simp; done) | (simp; omega)) (by first | assumption | omega | (simp; done) | (simp; omega)) c0); (try have k_c1 := But.cell hb' (by first | assumption | omega | (simp; done) | (simp; omega)) (by first | assumption | omega | (simp; done) | (simp; omega)) c1); (try have k_c2 := But.cell hb' (by first | assumption | omega | (simp; done) | (simp; omega)) (by first | assumption | omega | (simp; done) | (simp; omega)) c2); (try have k_c3 := But.cell hb' (by first | assumption | omega | (simp; done) | (simp; omega)) (by first | assumption | omega | (simp; done) | (simp; omega)) c3); (first | (go_simp; done) | (go_simp; with_reducible rfl) | (go_simp; go_bits; with_reducible rfl) | (go_simp; go_bits; done))); try simp only [Act.put, List.setIfInBounds_toArray, List.set_cons_zero, List.set_cons_succ]) | (apply linN_coldSkip; (simp only [List.getElem?_toArray, List.getElem?_cons_succ, List.getElem?_cons_zero]; rfl); (rfl); try simp only [Act.put, List.setIfInBounds_toArray, List.set_cons_zero, List.set_cons_succ])); (first | (apply linN_free; (simp only [List.getElem?_toArray, List.getElem?_cons_succ, List.getElem?_cons_zero]; rfl); (rfl); (intro w'; (first | (go_simp; done) | (go_simp; with_reducible rfl) | (go_simp; go_bits; with_reducible rfl) | (go_simp; go_bits; done))); try simp only [Act.put, List.setIfInBounds_toArray, List.set_cons_zero, List.set_cons_succ]) | (apply linN_freeSkip; (simp only [List.getElem?_toArray, List.getElem?_cons_succ, List.getElem?_cons_zero]; rfl); (rfl); try simp only [Act.put, List.setIfInBounds_toArray, List.set_cons_zero, List.set_cons_succ])); (first | (apply linN_free; (simp only [List.getElem?_toArray, List.getElem?_cons_succ, List.getElem?_cons_zero]; rfl); (rfl); (intro w'; (first | (go_simp; done) | (go_simp; with_reducible rfl) | (go_simp; go_bits; with_reducible rfl) | (go_simp; go_bits; done))); try simp only [Act.put, List.setIfInBounds_toArray, List.set_cons_zero, List.set_cons_succ]) | (apply linN_freeSkip; (simp only [List.getElem?_toArray, List.getElem?_cons_succ, List.getElem?_cons_zero]; rfl); (rfl); try simp only [Act.put, List.setIfInBounds_toArray, List.set_cons_zero, List.set_cons_succ])); (first | (apply linN_free; (simp only [List.getElem?_toArray, List.getElem?_cons_succ, List.getElem?_cons_zero]; rfl); (rfl); (intro w'; (first | (go_simp; done) | (go_simp; with_reducible rfl) | (go_simp; go_bits; with_reducible rfl) | (go_simp; go_bits; done))); try simp only [Act.put, List.setIfInBounds_toArray, List.set_cons_zero, List.set_cons_succ]) | (apply linN_freeSkip; (simp only [List.getElem?_toArray, List.getElem?_cons_succ, List.getElem?_cons_zero]; rfl); (rfl); try simp only [Act.put, List.setIfInBounds_toArray, List.set_cons_zero, List.set_cons_succ])); (first | (apply linN_free; (simp only [List.getElem?_toArray, List.getElem?_cons_succ, List.getElem?_cons_zero]; rfl); (rfl); (intro w'; (first | (go_simp; done) | (go_simp; with_reducible rfl) | (go_simp; go_bits; with_reducible rfl) | (go_simp; go_bits; done))); try simp only [Act.put, List.setIfInBounds_toArray, List.set_cons_zero, List.set_cons_succ]) | (apply linN_freeSkip; (simp only [List.getElem?_toArray, List.getElem?_cons_succ, List.getElem?_cons_zero]; rfl); (rfl); try simp only [Act.put, List.setIfInBounds_toArray, List.set_cons_zero, List.set_cons_succ])); (first | (apply linN_free; (simp only [List.getElem?_toArray, List.getElem?_cons_succ, List.getElem?_cons_zero]; rfl); (rfl); (intro w'; (first | (go_simp; done) | (go_simp; with_reducible rfl) | (go_simp; go_bits; with_reducible rfl) | (go_simp; go_bits; done))); try simp only [Act.put, List.setIfInBounds_toArray, List.set_cons_zero, List.set_cons_succ]) | (apply linN_freeSkip; (simp only [List.getElem?_toArray, List.getElem?_cons_succ, List.getElem?_cons_zero]; rfl); (rfl); try simp only [Act.put, List.setIfInBounds_toArray, List.set_cons_zero, List.set_cons_succ])); (first | (apply linN_pass (wayBut _ _) (wayB _); (simp only [List.getElem?_toArray, List.getElem?_cons_succ, List.getElem?_cons_zero]; rfl); (rfl); try simp only [Act.put, List.setIfInBounds_toArray, List.set_cons_zero, List.set_cons_succ]) | (apply linN_op; (simp only [List.getElem?_toArray, List.getElem?_cons_succ, List.getElem?_cons_zero]; rfl); (rfl); intro K hK; (first | (apply wp_storeY; rfl; rfl; (focus (go_simp; try rfl)); kernel_rfl; rfl; rfl; (first | exact hY.row | exact r1d); (simp only [List.size_toArray, Array.size_setIfInBounds, wv_length, hl]; assumption); intro WY hY; have hBY := Below.trans hBY (hY.below (Nat.le_refl _)); have r2d := Row.upd r2d hY hne2; have r3d := Row.upd r3d hY eq1) | (go_simp; (first | skip))); refine hK _ _ ?_ ?_; (show (But W3.heap.size g1) _ _; (first | exact hdr2 | assumption | exact (wayBut _ _).refl _ | exact (wayB _).refl _ | exact Below.refl _ _ | exact ⟨rfl, rfl, rfl, Nat.le_refl _, fun _ _ => rfl⟩ | exact but_set _ _ _ _ _ | exact but_drew (but_set _ _ _ _ _) | exact but_upd (by assumption) | exact but_below (by assumption) | exact belowB_alloc (by first | omega | (simp; done) | (simp; omega)) _ | exact belowB_mono (by first | omega | (simp; done) | (simp; omega)) (by assumption) | (first | exact rg_alloc (by simp; omega) (by simp; omega) _ | exact FR.of_below (below_alloc (Below.refl _ _) _) (by first | assumption | (simp; omega)) | exact DR.of_below (below_alloc (Below.refl _ _) _) (by first | assumption | (simp; omega))))); clear hK; try simp only [Act.put, List.setIfInBounds_toArray, List.set_cons_zero, List.set_cons_succ])); (first | (apply linN_free; (simp only [List.getElem?_toArray, List.getElem?_cons_succ, List.getElem?_cons_zero]; rfl); (rfl); (intro w'; (first | (go_simp; done) | (go_simp; with_reducible rfl) | (go_simp; go_bits; with_reducible rfl) | (go_simp; go_bits; done))); try simp only [Act.put, List.setIfInBounds_toArray, List.set_cons_zero, List.set_cons_succ]) | (apply linN_freeSkip; (simp only [List.getElem?_toArray, List.getElem?_cons_succ, List.getElem?_cons_zero]; rfl); (rfl); try simp only [Act.put, List.setIfInBounds_toArray, List.set_cons_zero, List.set_cons_succ])); (first | (apply linN_pass (wayBut _ _) (wayB _); (simp only [List.getElem?_toArray, List.getElem?_cons_succ, List.getElem?_cons_zero]; rfl); (rfl); try simp only [Act.put, List.setIfInBounds_toArray, List.set_cons_zero, List.set_cons_succ]) | (apply linN_op; (simp only [List.getElem?_toArray, List.getElem?_cons_succ, List.getElem?_cons_zero]; rfl); (rfl); intro K hK; (first | (apply wp_storeY; rfl; rfl; (focus (go_simp; try rfl)); kernel_rfl; rfl; rfl; (first | exact hY.row | exact r1d); (simp only [List.size_toArray, Array.size_setIfInBounds, wv_length, hl]; assumption); intro WY hY; have hBY := Below.trans hBY (hY.below (Nat.le_refl _)); have r2d := Row.upd r2d hY hne2; have r3d := Row.upd r3d hY eq1) | (go_simp; (first | skip))); refine hK _ _ ?_ ?_; (show (But W3.heap.size g1) _ _; (first | exact hdr2 | assumption | exact (wayBut _ _).refl _ | exact (wayB _).refl _ | exact Below.refl _ _ | exact ⟨rfl, rfl, rfl, Nat.le_refl _, fun _ _ => rfl⟩ | exact but_set _ _ _ _ _ | exact but_drew (but_set _ _ _ _ _) | exact but_upd (by assumption) | exact but_below (by assumption) | exact belowB_alloc (by first | omega | (simp; done) | (simp; omega)) _ | exact belowB_mono (by first | omega | (simp; done) | (simp; omega)) (by assumption) | (first | exact rg_alloc (by simp; omega) (by simp; omega) _ | exact FR.of_below (below_alloc (Below.refl _ _) _) (by first | assumption | (simp; omega)) | exact DR.of_below (below_alloc (Below.refl _ _) _) (by first | assumption | (simp; omega))))); clear hK; try simp only [Act.put, List.setIfInBounds_toArray, List.set_cons_zero, List.set_cons_succ])); (first | (apply linN_free; (simp only [List.getElem?_toArray, List.getElem?_cons_succ, List.getElem?_cons_zero]; rfl); (rfl); (intro w'; (first | (go_simp; done) | (go_simp; with_reducible rfl) | (go_simp; go_bits; with_reducible rfl) | (go_simp; go_bits; done))); try simp only [Act.put, List.setIfInBounds_toArray, List.set_cons_zero, List.set_cons_succ]) | (apply linN_freeSkip; (simp only [List.getElem?_toArray, List.getElem?_cons_succ, List.getElem?_cons_zero]; rfl); (rfl); try simp only [Act.put, List.setIfInBounds_toArray, List.set_cons_zero, List.set_cons_succ])); (first | (apply linN_pass (wayBut _ _) (wayB _); (simp only [List.getElem?_toArray, List.getElem?_cons_succ, List.getElem?_cons_zero]; rfl); (rfl); try simp only [Act.put, List.setIfInBounds_toArray, List.set_cons_zero, List.set_cons_succ]) | (apply linN_op; (simp only [List.getElem?_toArray, List.getElem?_cons_succ, List.getElem?_cons_zero]; rfl); (rfl); intro K hK; (first | (apply wp_storeY; rfl; rfl; (focus (go_simp; try rfl)); kernel_rfl; rfl; rfl; (first | exact hY.row | exact r1d); (simp only [List.size_toArray, Array.size_setIfInBounds, wv_length, hl]; assumption); intro WY hY; have hBY := Below.trans hBY (hY.below (Nat.le_refl _)); have r2d := Row.upd r2d hY hne2; have r3d := Row.upd r3d hY eq1) | (go_simp; (first | skip))); refine hK _ _ ?_ ?_; (show (But W3.heap.size g1) _ _; (first | exact hdr2 | assumption | exact (wayBut _ _).refl _ | exact (wayB _).refl _ | exact Below.refl _ _ | exact ⟨rfl, rfl, rfl, Nat.le_refl _, fun _ _ => rfl⟩ | exact but_set _ _ _ _ _ | exact but_drew (but_set _ _ _ _ _) | exact but_upd (by assumption) | exact but_below (by assumption) | exact belowB_alloc (by first | omega | (simp; done) | (simp; omega)) _ | exact belowB_mono (by first | omega | (simp; done) | (simp; omega)) (by assumption) | (first | exact rg_alloc (by simp; omega) (by simp; omega) _ | exact FR.of_below (below_alloc (Below.refl _ _) _) (by first | assumption | (simp; omega)) | exact DR.of_below (below_alloc (Below.refl _ _) _) (by first | assumption | (simp; omega))))); clear hK; try simp only [Act.put, List.setIfInBounds_toArray, List.set_cons_zero, List.set_cons_succ])); (first | (apply linN_free; (simp only [List.getElem?_toArray, List.getElem?_cons_succ, List.getElem?_cons_zero]; rfl); (rfl); (intro w'; (first | (go_simp; done) | (go_simp; with_reducible rfl) | (go_simp; go_bits; with_reducible rfl) | (go_simp; go_bits; done))); try simp only [Act.put, List.setIfInBounds_toArray, List.set_cons_zero, List.set_cons_succ]) | (apply linN_freeSkip; (simp only [List.getElem?_toArray, List.getElem?_cons_succ, List.getElem?_cons_zero]; rfl); (rfl); try simp only [Act.put, List.setIfInBounds_toArray, List.set_cons_zero, List.set_cons_succ])); (first | (apply linN_pass (wayBut _ _) (wayB _); (simp only [List.getElem?_toArray, List.getElem?_cons_succ, List.getElem?_cons_zero]; rfl); (rfl); try simp only [Act.put, List.setIfInBounds_toArray, List.set_cons_zero, List.set_cons_succ]) | (apply linN_op; (simp only [List.getElem?_toArray, List.getElem?_cons_succ, List.getElem?_cons_zero]; rfl); (rfl); intro K hK; (first | (apply wp_storeY; rfl; rfl; (focus (go_simp; try rfl)); kernel_rfl; rfl; rfl; (first | exact hY.row | exact r1d); (simp only [List.size_toArray, Array.size_setIfInBounds, wv_length, hl]; assumption); intro WY hY; have hBY := Below.trans hBY (hY.below (Nat.le_refl _)); have r2d := Row.upd r2d hY hne2; have r3d := Row.upd r3d hY eq1) | (go_simp; (first | skip))); refine hK _ _ ?_ ?_; (exact trivial); clear hK; try simp only [Act.put, List.setIfInBounds_toArray, List.set_cons_zero, List.set_cons_succ])); refine linN_end ?_)
      have hrow := hY.row
      simp only [wv_set] at hrow
      rw [← HST.out] at hrow
      clear hY r1 r2 r3 h1 h2 h3 c0 c1 c2 c3 hl r1d
      subst hg1
      go_wp2
      go_roundw
      case rel => exact ⟨k + 1, by omega, by go_num, hrow, r2d, r3d, hBY⟩
      case measure => simp [intOf]; omega
    · obtain rfl : k = 8 := by omega
      have hl : (qrows s 8).length = 16 := by rw [qrows_length, hS.out]
      have hw := wv_all (qrows s 8)
      go_wp2_with (first | (apply wpl_loadS (ty := 128); rfl; rfl; rfl; kernel_rfl; exact h1; (simp only [List.size_toArray, wv_length, hl]; kernel_rfl); simp only [Act.put, List.setIfInBounds_toArray, List.set_cons_zero, List.set_cons_succ]) | (apply wpl_storeX; rfl; rfl; rfl; rfl; exact h2; (simp only [List.size_toArray, wv_length, hl]; kernel_rfl); (simp only [List.size_toArray, wv_length, hl]; rfl); exact hw; intro W6 hW6; simp only [Act.put]))
      refine bodyPost_ret (results_cell1 rfl rfl (run_loadRow _ _ _ _ _ 0 hW6.row (by simp only [List.size_toArray, wv_length, hl]; kernel_rfl) (by kernel_rfl))) rfl ⟨rfl, hB.trans (hW6.below (by omega))⟩
end Go.Proofs.Ytmdmhjcdaejlkaa

/- A block of the stream, the program's and the reference's. -/
set_option linter.unusedVariables false
set_option linter.unusedSimpArgs false
namespace Go.Proofs.Ytmdmhjcdaejlkaa
open Go.RowKit

def initA (key : List UInt8) (i : Nat) : List Int := [1634760805, 857760878, 2036477234, 1797285236] ++ (List.range i).map (wordAt key) ++ List.replicate (12 - i) 0
def initB (key nonce : List UInt8) (ctr i : Nat) : List Int := [1634760805, 857760878, 2036477234, 1797285236] ++ (List.range 8).map (wordAt key) ++ [(ctr : Int)] ++ (List.range i).map (wordAt nonce) ++ List.replicate (3 - i) 0
theorem initA_step (key : List UInt8) {i : Nat} (h : i < 8) : (initA key i).set (4 + i) (wordAt key i) = initA key (i + 1) := by
  obtain rfl | rfl | rfl | rfl | rfl | rfl | rfl | rfl : i = 0 ∨ i = 1 ∨ i = 2 ∨ i = 3 ∨ i = 4 ∨ i = 5 ∨ i = 6 ∨ i = 7 := by omega
  all_goals rfl
theorem initA_last (key nonce : List UInt8) (ctr : Nat) : (initA key 8).set 12 (ctr : Int) = initB key nonce ctr 0 := rfl
theorem initB_step (key nonce : List UInt8) (ctr : Nat) {i : Nat} (h : i < 3) : (initB key nonce ctr i).set (13 + i) (wordAt nonce i) = initB key nonce ctr (i + 1) := by
  obtain rfl | rfl | rfl : i = 0 ∨ i = 1 ∨ i = 2 := by omega
  all_goals rfl
theorem initB_last (key nonce : List UInt8) (ctr : Nat) : initB key nonce ctr 3 = initW key nonce ctr := rfl
theorem initA_length (key : List UInt8) {i : Nat} (h : i ≤ 8) : (initA key i).length = 16 := by simp [initA]; omega
theorem initB_length (key nonce : List UInt8) (ctr : Nat) {i : Nat} (h : i ≤ 3) : (initB key nonce ctr i).length = 16 := by simp [initB]; omega
theorem wordAt_range (xs : List UInt8) (i : Nat) : 0 ≤ wordAt xs i ∧ wordAt xs i < 4294967296 := by
  unfold wordAt
  have h := leN_lt ((xs.drop (4 * i)).take 4)
  have h2 : 256 ^ ((xs.drop (4 * i)).take 4).length ≤ 256 ^ 4 := Nat.pow_le_pow_right (by decide) (List.length_take_le _ _)
  have h3 : (256 : Nat) ^ 4 = 4294967296 := rfl
  omega
/-- what stands in the block behind i words -/
def outP (s t : List Int) (i : Nat) : List UInt8 := (List.range i).flatMap (wbytes s t) ++ List.replicate (64 - 4 * i) 0
theorem outP_length (s t : List Int) {i : Nat} (h : i ≤ 16) : (outP s t i).length = 64 := by
  unfold outP
  rw [List.length_append, flat4_length _ (wbytes_length s t), List.length_replicate]
  omega
theorem outP_step (s t : List Int) {i : Nat} (h : i < 16) : (outP s t i).take (4 * i) ++ (wbytes s t i ++ (outP s t i).drop (4 * i + 4)) = outP s t (i + 1) := by
  have hl := flat4_length _ (wbytes_length s t) i
  have e1 : (outP s t i).take (4 * i) = (List.range i).flatMap (wbytes s t) := by
    unfold outP
    rw [List.take_append_of_le_length (by omega), List.take_of_length_le (by omega)]
  have e2 : (outP s t i).drop (4 * i + 4) = List.replicate (64 - 4 * (i + 1)) 0 := by
    unfold outP
    rw [List.drop_append, List.drop_of_length_le (by omega), hl, List.nil_append, List.drop_replicate]
    congr 1
    omega
  rw [e1, e2]
  unfold outP
  rw [List.range_succ, List.flatMap_append]
  simp
theorem outP_end (key nonce : List UInt8) (ctr : Nat) : outP (initW key nonce ctr) (doubles (initW key nonce ctr) 10) 16 = blockL key nonce ctr := by
  unfold outP blockL
  simp
structure IsDbl (a b : List Int) : Prop where
  out : doubleL a = b
structure IsD (S : List Int) (k : Nat) (D : List Int) : Prop where
  out : doubles S k = D
structure IsOut (S D : List Int) (i : Nat) (P : List UInt8) : Prop where
  out : outP S D i = P
structure IsB (key nonce : List UInt8) (ctr : Nat) (b : List UInt8) : Prop where
  out : blockL key nonce ctr = b
structure IsBlk (S : List Int) (b : List UInt8) : Prop where
  out : outP S (doubles S 10) 16 = b
theorem alloc2 (w : World) (c0 : Array Value) (t0 : TypeId) (c1 : Array Value) (t1 : TypeId) :
    Row ((w.alloc (.cells c0 t0)).alloc (.cells c1 t1)) w.heap.size c0 t0 ∧ Row ((w.alloc (.cells c0 t0)).alloc (.cells c1 t1)) (w.heap.size + 1) c1 t1 ∧
    ((w.alloc (.cells c0 t0)).alloc (.cells c1 t1)).heap.size = w.heap.size + 2 ∧ Below w.heap.size w ((w.alloc (.cells c0 t0)).alloc (.cells c1 t1)) := by
  have e1 : (w.alloc (.cells c0 t0)).heap.size = w.heap.size + 1 := by simp
  have r1 := Row.new (w.alloc (.cells c0 t0)) c1 t1
  rw [e1] at r1
  exact ⟨(Row.new w c0 t0).alloc _, r1, by simp, below_alloc (below_alloc (Below.refl _ _) _) _⟩
theorem alloc4 (w : World) (c0 : Array Value) (t0 : TypeId) (c1 : Array Value) (t1 : TypeId) (c2 : Array Value) (t2 : TypeId) (c3 : Array Value) (t3 : TypeId) :
    Row ((((w.alloc (.cells c0 t0)).alloc (.cells c1 t1)).alloc (.cells c2 t2)).alloc (.cells c3 t3)) w.heap.size c0 t0 ∧ Row ((((w.alloc (.cells c0 t0)).alloc (.cells c1 t1)).alloc (.cells c2 t2)).alloc (.cells c3 t3)) (w.heap.size + 1) c1 t1 ∧
    Row ((((w.alloc (.cells c0 t0)).alloc (.cells c1 t1)).alloc (.cells c2 t2)).alloc (.cells c3 t3)) (w.heap.size + 2) c2 t2 ∧ Row ((((w.alloc (.cells c0 t0)).alloc (.cells c1 t1)).alloc (.cells c2 t2)).alloc (.cells c3 t3)) (w.heap.size + 3) c3 t3 ∧
    ((((w.alloc (.cells c0 t0)).alloc (.cells c1 t1)).alloc (.cells c2 t2)).alloc (.cells c3 t3)).heap.size = w.heap.size + 4 ∧ Below w.heap.size w ((((w.alloc (.cells c0 t0)).alloc (.cells c1 t1)).alloc (.cells c2 t2)).alloc (.cells c3 t3)) := by
  obtain ⟨a0, a1, hz, hB⟩ := alloc2 w c0 t0 c1 t1
  obtain ⟨b0, b1, hz2, hB2⟩ := alloc2 ((w.alloc (.cells c0 t0)).alloc (.cells c1 t1)) c2 t2 c3 t3
  rw [hz] at b0 b1 hz2
  exact ⟨(a0.alloc _).alloc _, (a1.alloc _).alloc _, b0, b1, hz2, below_two hB hB2⟩
set_option maxHeartbeats 4000000 in
set_option maxRecDepth 100000 in
theorem c_block (key nonce : List UInt8) (ctr : Nat) (hk : key.length = 32) (hn : nonce.length = 12) (hc : ctr < 4294967296) (w : World) :
    Calls Try.prog 93 #[.agg (bv key).toArray, .agg (bv nonce).toArray, .int .u32 (ctr : Int)] w fun e w' => e = .returned (.agg (bv (blockL key nonce ctr)).toArray) ∧ Below w.heap.size w w' := by
  have HK := Lib.hid hk
  have HN := Lib.hid hn
  clear hk hn
  go_enter Try.func93, Try.ntmps93
  go_wp2_with fail
  obtain ⟨h3, h4, h6, h7, hz, hB⟩ := alloc4 w (bv key).toArray 22 (bv nonce).toArray 43 (bv (List.replicate 64 0)).toArray 123 (wv (initA key 0)).toArray 128
  have HZ := Lib.hid hz
  clear hz
  go_loopw [14] (fun s14 wr => ∃ i : Nat, i ≤ 8 ∧ s14 = .int .i64 (i : Int) ∧ Row wr (w.heap.size + 3) (wv (initA key i)).toArray 128 ∧ Row wr w.heap.size (bv key).toArray 22 ∧ Row wr (w.heap.size + 1) (bv nonce).toArray 43 ∧ Row wr (w.heap.size + 2) (bv (List.replicate 64 0)).toArray 123 ∧ Below w.heap.size w wr) (fun i _ => (8 - intOf i).toNat)
  case atStart => exact ⟨0, by omega, rfl, h7, h3, h4, h6, hB⟩
  case round =>
    clear h7 h3 h4 h6 hB HZ
    obtain ⟨i, hi, rfl, h7, h3, h4, h6, hB⟩ := hrel
    by_cases hlt : i < 8
    · have hRd := row_part h3 (4 * i) 4 (by rw [HK.out]; omega)
      have hw8 : leN (((key.drop (4 * i)).take 4).take 8) = leN ((key.drop (4 * i)).take 4) := by rw [List.take_of_length_le (l := (key.drop (4 * i)).take 4) (by rw [List.length_take]; omega)]
      have HW := Lib.hid hw8
      clear hw8
      have hst := initA_step key hlt
      have hln := initA_length key (i := i) (by omega)
      obtain ⟨w0, w1⟩ := wordAt_range key i
      have hwa : ((leN ((key.drop (4 * i)).take 4) : Nat) : Int) = wordAt key i := rfl
      have HWA := Lib.hid hwa
      have HST := Lib.hid hst
      have HLN := Lib.hid hln
      clear hst hln hwa
      generalize wordAt key i = wd at *
      have hsl := slice_arr (P := Try.prog) (t := 22) Try.underlying22 (by kernel_rfl) w.heap.size (4 * (i : Int)) (4 * (i : Int) + 4) (4 * i) (4 * i + 4) (by omega) (by omega) (by omega) (by omega) (by omega)
      rw [show 4 * i + 4 - 4 * i = 4 by omega] at hsl
      go_wp2_with (first | (go_at_call 71; refine (c_leGet _ _ _ ((key.drop (4*i)).take 4) _ hRd (by decide)).mono ?_; rintro e w' ⟨rfl, rfl⟩; rw [HW.out, HWA.out]) | (apply wpl_storeY'; rfl; rfl; rfl; (focus (go_simp; try rfl)); kernel_rfl; rfl; rfl; exact h7; (simp only [List.size_toArray, wv_length, HLN.out]; omega); intro W1 hW1; simp only [Act.put]))
      have hrow := hW1.row
      rw [wv_set, HST.out] at hrow
      go_roundw
      case rel => exact ⟨i + 1, by omega, by go_num, hrow, h3.upd hW1 (by omega), h4.upd hW1 (by omega), h6.upd hW1 (by omega), hB.trans (hW1.below (by omega))⟩
      case measure => simp [intOf]; omega
    · obtain rfl : i = 8 := by omega
      simp only [show ((8 : Nat) : Int) = 8 from rfl]
      have hln := initA_length key (i := 8) (by omega)
      have HLN := Lib.hid hln
      clear hln
      go_wp2_with (apply wpl_storeY'; rfl; rfl; rfl; (focus (go_simp; try rfl)); kernel_rfl; rfl; rfl; exact h7; (simp only [List.size_toArray, wv_length, HLN.out]; omega); intro W1 hW1; simp only [Act.put])
      have k7 := hW1.row
      rw [wv_set, initA_last key nonce ctr] at k7
      have k3 := h3.upd hW1 (by omega)
      have k4 := h4.upd hW1 (by omega)
      have k6 := h6.upd hW1 (by omega)
      have kB := hB.trans (hW1.below (by omega))
      clear h7 h3 h4 h6 hB hW1 HLN
      go_loopw [31] (fun s31 wr => ∃ i : Nat, i ≤ 3 ∧ s31 = .int .i64 (i : Int) ∧ Row wr (w.heap.size + 3) (wv (initB key nonce ctr i)).toArray 128 ∧ Row wr (w.heap.size + 1) (bv nonce).toArray 43 ∧ Row wr (w.heap.size + 2) (bv (List.replicate 64 0)).toArray 123 ∧ Below w.heap.size w wr) (fun i _ => (3 - intOf i).toNat)
      case atStart => exact ⟨0, by omega, rfl, k7, k4, k6, kB⟩
      case round =>
        clear k7 k3 k4 k6 kB
        obtain ⟨i, hi, rfl, h7, h4, h6, hB⟩ := hrel
        by_cases hlt : i < 3
        · have hRd := row_part h4 (4 * i) 4 (by rw [HN.out]; omega)
          have hw8 : leN (((nonce.drop (4 * i)).take 4).take 8) = leN ((nonce.drop (4 * i)).take 4) := by rw [List.take_of_length_le (l := (nonce.drop (4 * i)).take 4) (by rw [List.length_take]; omega)]
          have HW := Lib.hid hw8
          clear hw8
          have hst := initB_step key nonce ctr hlt
          have hln := initB_length key nonce ctr (i := i) (by omega)
          obtain ⟨w0, w1⟩ := wordAt_range nonce i
          have hwa : ((leN ((nonce.drop (4 * i)).take 4) : Nat) : Int) = wordAt nonce i := rfl
          have HWA := Lib.hid hwa
          have HST := Lib.hid hst
          have HLN := Lib.hid hln
          clear hst hln hwa
          generalize wordAt nonce i = wd at *
          have hsl := slice_arr (P := Try.prog) (t := 43) Try.underlying43 (by kernel_rfl) (w.heap.size + 1) (4 * (i : Int)) (4 * (i : Int) + 4) (4 * i) (4 * i + 4) (by omega) (by omega) (by omega) (by omega) (by omega)
          rw [show 4 * i + 4 - 4 * i = 4 by omega] at hsl
          go_wp2_with (first | (go_at_call 71; refine (c_leGet _ _ _ ((nonce.drop (4*i)).take 4) _ hRd (by decide)).mono ?_; rintro e w' ⟨rfl, rfl⟩; rw [HW.out, HWA.out]) | (apply wpl_storeY'; rfl; rfl; rfl; (focus (go_simp; try rfl)); kernel_rfl; rfl; rfl; exact h7; (simp only [List.size_toArray, wv_length, HLN.out]; omega); intro W1 hW1; simp only [Act.put]))
          have hrow := hW1.row
          rw [wv_set, HST.out] at hrow
          go_roundw
          case rel => exact ⟨i + 1, by omega, by go_num, hrow, h4.upd hW1 (by omega), h6.upd hW1 (by omega), hB.trans (hW1.below (by omega))⟩
          case measure => simp [intOf]; omega
        · obtain rfl : i = 3 := by omega
          simp only [show ((3 : Nat) : Int) = 3 from rfl]
          have hln := initB_length key nonce ctr (i := 3) (by omega)
          rw [initB_last] at h7 hln
          have HOE : IsBlk _ _ := ⟨outP_end key nonce ctr⟩
          have HBK : IsB key nonce ctr (blockL key nonce ctr) := ⟨rfl⟩
          generalize blockL key nonce ctr = BL at *
          generalize initW key nonce ctr = S at *
          have HLN := Lib.hid hln
          clear hln
          have hall := wv_all S
          go_upto_region 14 with (first | (apply wpl_loadS (ty := 128); rfl; rfl; rfl; kernel_rfl; exact h7; (simp only [List.size_toArray, wv_length, HLN.out]; kernel_rfl); simp only [Act.put, List.setIfInBounds_toArray, List.set_cons_zero, List.set_cons_succ]) | (apply wpl_storeN; rfl; rfl; rfl; (first | rfl | simp); rfl; (simp only [List.size_toArray, wv_length, HLN.out]; kernel_rfl); (simp only [List.size_toArray, wv_length, HLN.out]; rfl); exact hall; simp only [Act.put]))
          have g7 := h7.alloc (.cells (wv S).toArray 128)
          have g6 := h6.alloc (.cells (wv S).toArray 128)
          have g10 := Row.new wr (wv S).toArray 128
          have hz := h7.lt
          have gB := hB.trans (belowB_alloc (B := w.heap.size) (w := wr) (by omega) (.cells (wv S).toArray 128))
          generalize wr.alloc (.cells (wv S).toArray 128) = w2 at *
          generalize wr.heap.size = d10 at *
          clear h7 h4 h6 hB
          go_wp2_with fail
          go_loopw [47] (fun s47 wr => ∃ k : Nat, k ≤ 10 ∧ s47 = .int .i64 (k : Int) ∧ Row wr (w.heap.size + 3) (wv S).toArray 128 ∧ Row wr d10 (wv (doubles S k)).toArray 128 ∧ Row wr (w.heap.size + 2) (bv (List.replicate 64 0)).toArray 123 ∧ Below w.heap.size w wr) (fun i _ => (10 - intOf i).toNat)
          case atStart => exact ⟨0, by omega, rfl, g7, g10, g6, gB⟩
          case round =>
            clear g7 g10 g6 gB
            obtain ⟨k, hk, rfl, h7, h10, h6, hB⟩ := hrel
            have hdl : (doubles S k).length = 16 := by rw [doubles_length, HLN.out]
            have HDL := Lib.hid hdl
            clear hdl
            by_cases hlt : k < 10
            · have hdn : (doubles S (k + 1)).length = 16 := by rw [doubles_length, HLN.out]
              have HDN := Lib.hid hdn
              have HDS : IsDbl (doubles S k) (doubles S (k + 1)) := ⟨rfl⟩
              clear hdn
              have hal2 := wv_all (doubles S (k + 1))
              have HE : IsD S (k + 1) (doubles S (k + 1)) := ⟨rfl⟩
              generalize doubles S (k + 1) = Dn at *
              generalize doubles S k = Dk at *
              go_upto_region 17 with (first | (apply wpl_loadS (ty := 128); rfl; rfl; rfl; kernel_rfl; exact h10; (simp only [List.size_toArray, wv_length, HDL.out]; kernel_rfl); simp only [Act.put, List.setIfInBounds_toArray, List.set_cons_zero, List.set_cons_succ]) | (go_at_call 98; refine (c_double Dk HDL.out _).mono ?_; rintro e w3 ⟨rfl, hb3⟩; rw [HDS.out]) | (apply wpl_storeX (cells := (wv Dn).toArray); rfl; rfl; rfl; rfl; exact h10.below hb3 h10.lt; (simp only [List.size_toArray, wv_length, HDN.out]; kernel_rfl); (simp only [List.size_toArray, wv_length, HDL.out, HDN.out]); exact hal2; intro W6 hW6; simp only [Act.put]))
              have k10 := hW6.row
              have k7 := (h7.below hb3 h7.lt).upd hW6 (by omega)
              have k6 := (h6.below hb3 h6.lt).upd hW6 (by omega)
              have l10 := h10.lt
              have kB := hB.trans ((hb3.mono (by omega)).trans (hW6.below (by omega)))
              clear h10 h7 h6 hB hb3 hW6
              go_wp2
              rw [← HE.out] at k10
              go_roundw
              case rel => exact ⟨k + 1, by omega, by go_num, k7, k10, k6, kB⟩
              case measure => simp [intOf]; omega
            · obtain rfl : k = 10 := by omega
              simp only [show ((10 : Nat) : Int) = 10 from rfl]
              have HE10 : IsD S 10 (doubles S 10) := ⟨rfl⟩
              generalize doubles S 10 = D at *
              go_wp2_with fail
              have g11 := Row.new wr (bv (outP S D 0)).toArray 123
              have g7 := h7.alloc (.cells (bv (outP S D 0)).toArray 123)
              have g10 := h10.alloc (.cells (bv (outP S D 0)).toArray 123)
              have g6 := h6.alloc (.cells (bv (outP S D 0)).toArray 123)
              have l10 := h10.lt
              have l7 := h7.lt
              have gB := hB.trans (belowB_alloc (B := w.heap.size) (w := wr) (by omega) (.cells (bv (outP S D 0)).toArray 123))
              generalize wr.heap.size = gO at *
              go_loopw [52] (fun s52 wq => ∃ i : Nat, i ≤ 16 ∧ s52 = .int .i64 (i : Int) ∧ Row wq (w.heap.size + 3) (wv S).toArray 128 ∧ Row wq d10 (wv D).toArray 128 ∧ Row wq gO (bv (outP S D i)).toArray 123 ∧ Row wq (w.heap.size + 2) (bv (List.replicate 64 0)).toArray 123 ∧ Below w.heap.size w wq) (fun i _ => (16 - intOf i).toNat)
              case atStart => exact ⟨0, by omega, rfl, g7, g10, g11, g6, gB⟩
              case round =>
                clear g7 g10 g11 g6 gB h7 h10 h6 hB
                obtain ⟨i, hi, rfl, h7, h10, h11, h6, hB⟩ := hrel
                by_cases hlt : i < 16
                · go_upto_region 22 with fail
                  have hN : (S.getD i 0 + D.getD i 0) % 4294967296 = (((addW (S.getD i 0) (D.getD i 0)).toNat : Nat) : Int) := by unfold addW; omega
                  have hNl : (addW (S.getD i 0) (D.getD i 0)).toNat < 4294967296 := by unfold addW; omega
                  have hwb : leP (addW (S.getD i 0) (D.getD i 0)).toNat 4 = wbytes S D i := rfl
                  have HWB := Lib.hid hwb
                  have cS := wv_cell h7 (j := i) (by rw [HLN.out]; exact hlt)
                  have cD := wv_cell h10 (j := i) (by rw [HDL.out]; exact hlt)
                  clear hwb
                  generalize (addW (S.getD i 0) (D.getD i 0)).toNat = N at *
                  generalize S.getD i 0 = x at *
                  generalize D.getD i 0 = y at *
                  have hsl := slice_arr_from (P := Try.prog) (t := 123) Try.underlying123 (by kernel_rfl) gO (4 * (i : Int)) (4 * i) (by omega) (by omega)
                  have b7 := h7.lt
                  have b10 := h10.lt
                  have hlt2 : (i : Int) < 16 := by omega
                  have hqm : 4 + 4 * i ≤ 64 := by omega
                  have hol := outP_length S D hi
                  have hst := outP_step S D hlt
                  have HOL := Lib.hid hol
                  have HST := Lib.hid hst
                  clear hol hst
                  have hw4 : IntKind.i64.wrap (4 * (i : Int)) = 4 * (i : Int) := IntWalk.i64_in _ (by omega)
                  have hw6 : IntKind.u64.wrap (N : Int) = (N : Int) := IntWalk.u64_in _ ⟨by omega, by omega⟩
                  have hw5 : IntKind.u32.wrap (x + y) = (N : Int) := hN
                  have h11d : Row wr.drew gO _ _ := h11
                  have hyl := wbytes_length S D i
                  have HYL := Lib.hid hyl
                  clear hyl
                  have HO1 : IsOut S D (i + 1) (outP S D (i + 1)) := ⟨rfl⟩
                  generalize outP S D (i + 1) = P1 at *
                  generalize outP S D i = P0 at *
                  generalize wbytes S D i = Y at *
                  (refine wp_region_linN (Below wr.heap.size) (Below wr.heap.size) (wayB _) (wayB _) (fun _ _ h => h) (.free 0 (.free 1 (.free 2 (.free 3 (.free 4 (.hot 5 (.free 6 (.free 7 (.hot 8 (.free 9 (.hot 10 (.op 11 [(10, 11), (9, 10), (5, 9), (8, 9)] [] [] (.op 12 [] [] [] .nil))))))))))))) rfl (by kernel_rfl) (by kernel_rfl) (fun _ _ _ _ _ h => h) ?_; (first | (apply linN_free; (simp only [List.getElem?_toArray, List.getElem?_cons_succ, List.getElem?_cons_zero]; rfl); (rfl); (intro w'; (first | (go_simp; done) | (go_simp; with_reducible rfl) | (go_simp; go_bits; with_reducible rfl) | (go_simp; go_bits; done))); try simp only [Act.put, List.setIfInBounds_toArray, List.set_cons_zero, List.set_cons_succ]) | (apply linN_freeSkip; (simp only [List.getElem?_toArray, List.getElem?_cons_succ, List.getElem?_cons_zero]; rfl); (rfl); try simp only [Act.put, List.setIfInBounds_toArray, List.set_cons_zero, List.set_cons_succ])); (first | (apply linN_free; (simp only [List.getElem?_toArray, List.getElem?_cons_succ, List.getElem?_cons_zero]; rfl); (rfl); (intro w'; (first | (go_simp; done) | (go_simp; with_reducible rfl) | (go_simp; go_bits; with_reducible rfl) | (go_simp; go_bits; done))); try simp only [Act.put, List.setIfInBounds_toArray, List.set_cons_zero, List.set_cons_succ]) | (apply linN_freeSkip; (simp only [List.getElem?_toArray, List.getElem?_cons_succ, List.getElem?_cons_zero]; rfl); (rfl); try simp only [Act.put, List.setIfInBounds_toArray, List.set_cons_zero, List.set_cons_succ])); (first | (apply linN_free; (simp only [List.getElem?_toArray, List.getElem?_cons_succ, List.getElem?_cons_zero]; rfl); (rfl); (intro w'; (first | (go_simp; done) | (go_simp; with_reducible rfl) | (go_simp; go_bits; with_reducible rfl) | (go_simp; go_bits; done))); try simp only [Act.put, List.setIfInBounds_toArray, List.set_cons_zero, List.set_cons_succ]) | (apply linN_freeSkip; (simp only [List.getElem?_toArray, List.getElem?_cons_succ, List.getElem?_cons_zero]; rfl); (rfl); try simp only [Act.put, List.setIfInBounds_toArray, List.set_cons_zero, List.set_cons_succ])); (first | (apply linN_free; (simp only [List.getElem?_toArray, List.getElem?_cons_succ, List.getElem?_cons_zero]; rfl); (rfl); (intro w'; (first | (go_simp; done) | (go_simp; with_reducible rfl) | (go_simp; go_bits; with_reducible rfl) | (go_simp; go_bits; done))); try simp only [Act.put, List.setIfInBounds_toArray, List.set_cons_zero, List.set_cons_succ]) | (apply linN_freeSkip; (simp only [List.getElem?_toArray, List.getElem?_cons_succ, List.getElem?_cons_zero]; rfl); (rfl); try simp only [Act.put, List.setIfInBounds_toArray, List.set_cons_zero, List.set_cons_succ])); (first | (apply linN_free; (simp only [List.getElem?_toArray, List.getElem?_cons_succ, List.getElem?_cons_zero]; rfl); (rfl); (intro w'; (first | (go_simp; done) | (go_simp; with_reducible rfl) | (go_simp; go_bits; with_reducible rfl) | (go_simp; go_bits; done))); try simp only [Act.put, List.setIfInBounds_toArray, List.set_cons_zero, List.set_cons_succ]) | (apply linN_freeSkip; (simp only [List.getElem?_toArray, List.getElem?_cons_succ, List.getElem?_cons_zero]; rfl); (rfl); try simp only [Act.put, List.setIfInBounds_toArray, List.set_cons_zero, List.set_cons_succ])); (first | (apply linN_hot; (simp only [List.getElem?_toArray, List.getElem?_cons_succ, List.getElem?_cons_zero]; rfl); (rfl); (intro w' hb'; (try have k_cS := keepB (by first | assumption | omega | (simp; done) | (simp; omega)) hb' cS); (try have k_cD := keepB (by first | assumption | omega | (simp; done) | (simp; omega)) hb' cD); (first | (go_simp; done) | (go_simp; with_reducible rfl) | (go_simp; go_bits; with_reducible rfl) | (go_simp; go_bits; done))); try simp only [Act.put, List.setIfInBounds_toArray, List.set_cons_zero, List.set_cons_succ]) | (apply linN_hotSkip; (simp only [List.getElem?_toArray, List.getElem?_cons_succ, List.getElem?_cons_zero]; rfl); (rfl); try simp only [Act.put, List.setIfInBounds_toArray, List.set_cons_zero, List.set_cons_succ])); (first | (apply linN_free; (simp only [List.getElem?_toArray, List.getElem?_cons_succ, List.getElem?_cons_zero]; rfl); (rfl); (intro w'; (first | (go_simp; done) | (go_simp; with_reducible rfl) | (go_simp; go_bits; with_reducible rfl) | (go_simp; go_bits; done))); try simp only [Act.put, List.setIfInBounds_toArray, List.set_cons_zero, List.set_cons_succ]) | (apply linN_freeSkip; (simp only [List.getElem?_toArray, List.getElem?_cons_succ, List.getElem?_cons_zero]; rfl); (rfl); try simp only [Act.put, List.setIfInBounds_toArray, List.set_cons_zero, List.set_cons_succ])); (first | (apply linN_free; (simp only [List.getElem?_toArray, List.getElem?_cons_succ, List.getElem?_cons_zero]; rfl); (rfl); (intro w'; (first | (go_simp; done) | (go_simp; with_reducible rfl) | (go_simp; go_bits; with_reducible rfl) | (go_simp; go_bits; done))); try simp only [Act.put, List.setIfInBounds_toArray, List.set_cons_zero, List.set_cons_succ]) | (apply linN_freeSkip; (simp only [List.getElem?_toArray, List.getElem?_cons_succ, List.getElem?_cons_zero]; rfl); (rfl); try simp only [Act.put, List.setIfInBounds_toArray, List.set_cons_zero, List.set_cons_succ])); (first | (apply linN_hot; (simp only [List.getElem?_toArray, List.getElem?_cons_succ, List.getElem?_cons_zero]; rfl); (rfl); (intro w' hb'; (try have k_cS := keepB (by first | assumption | omega | (simp; done) | (simp; omega)) hb' cS); (try have k_cD := keepB (by first | assumption | omega | (simp; done) | (simp; omega)) hb' cD); (first | (go_simp; done) | (go_simp; with_reducible rfl) | (go_simp; go_bits; with_reducible rfl) | (go_simp; go_bits; done))); try simp only [Act.put, List.setIfInBounds_toArray, List.set_cons_zero, List.set_cons_succ]) | (apply linN_hotSkip; (simp only [List.getElem?_toArray, List.getElem?_cons_succ, List.getElem?_cons_zero]; rfl); (rfl); try simp only [Act.put, List.setIfInBounds_toArray, List.set_cons_zero, List.set_cons_succ])); (first | (apply linN_free; (simp only [List.getElem?_toArray, List.getElem?_cons_succ, List.getElem?_cons_zero]; rfl); (rfl); (intro w'; (first | (go_simp; done) | (go_simp; with_reducible rfl) | (go_simp; go_bits; with_reducible rfl) | (go_simp; go_bits; done))); try simp only [Act.put, List.setIfInBounds_toArray, List.set_cons_zero, List.set_cons_succ]) | (apply linN_freeSkip; (simp only [List.getElem?_toArray, List.getElem?_cons_succ, List.getElem?_cons_zero]; rfl); (rfl); try simp only [Act.put, List.setIfInBounds_toArray, List.set_cons_zero, List.set_cons_succ])); (first | (apply linN_hot; (simp only [List.getElem?_toArray, List.getElem?_cons_succ, List.getElem?_cons_zero]; rfl); (rfl); (intro w' hb'; (try have k_cS := keepB (by first | assumption | omega | (simp; done) | (simp; omega)) hb' cS); (try have k_cD := keepB (by first | assumption | omega | (simp; done) | (simp; omega)) hb' cD); (first | (go_simp; done) | (go_simp; with_reducible rfl) | (go_simp; go_bits; with_reducible rfl) | (go_simp; go_bits; done))); try simp only [Act.put, List.setIfInBounds_toArray, List.set_cons_zero, List.set_cons_succ]) | (apply linN_hotSkip; (simp only [List.getElem?_toArray, List.getElem?_cons_succ, List.getElem?_cons_zero]; rfl); (rfl); try simp only [Act.put, List.setIfInBounds_toArray, List.set_cons_zero, List.set_cons_succ])); (first | (apply linN_pass (wayB _) (wayB _); (simp only [List.getElem?_toArray, List.getElem?_cons_succ, List.getElem?_cons_zero]; rfl); (rfl); try simp only [Act.put, List.setIfInBounds_toArray, List.set_cons_zero, List.set_cons_succ]) | (apply linN_op; (simp only [List.getElem?_toArray, List.getElem?_cons_succ, List.getElem?_cons_zero]; rfl); (rfl); intro K hK; (first | (refine wp_copyP (g := gO) (off := 4 * i) (n := 64 - 4 * i) (m := 4) (T := 123) (cur := (bv P0).toArray) (ys := Y) rfl (by first | rfl | (go_simp; rfl)) (by first | rfl | (go_simp; rfl)) R11 hq5 (by rw [List.size_toArray, bv_length, HOL.out]; omega) ?_; intro W2 y2 hu2) | (go_simp; (first | (go_at_call 85; refine (c_lePut N 4 _ (by decide)).mono ?_; rintro e w5 ⟨v5, rfl, ho5, hb5⟩; obtain ⟨A5, ca5, rfl, lc5, -, hq5⟩ := ho5.form; rw [leP_length] at hq5 lc5; rw [HWB.out] at hq5; simp only [leP_length]; have R11 := h11d.below hb5 h11.lt) | skip))); refine hK _ _ ?_ ?_; (exact trivial); clear hK; try simp only [Act.put, List.setIfInBounds_toArray, List.set_cons_zero, List.set_cons_succ])); (first | (apply linN_pass (wayB _) (wayB _); (simp only [List.getElem?_toArray, List.getElem?_cons_succ, List.getElem?_cons_zero]; rfl); (rfl); try simp only [Act.put, List.setIfInBounds_toArray, List.set_cons_zero, List.set_cons_succ]) | (apply linN_op; (simp only [List.getElem?_toArray, List.getElem?_cons_succ, List.getElem?_cons_zero]; rfl); (rfl); intro K hK; (first | (refine wp_copyP (g := gO) (off := 4 * i) (n := 64 - 4 * i) (m := 4) (T := 123) (cur := (bv P0).toArray) (ys := Y) rfl (by first | rfl | (go_simp; rfl)) (by first | rfl | (go_simp; rfl)) R11 hq5 (by rw [List.size_toArray, bv_length, HOL.out]; omega) ?_; intro W2 y2 hu2) | (go_simp; (first | (go_at_call 85; refine (c_lePut N 4 _ (by decide)).mono ?_; rintro e w5 ⟨v5, rfl, ho5, hb5⟩; obtain ⟨A5, ca5, rfl, lc5, -, hq5⟩ := ho5.form; rw [leP_length] at hq5 lc5; rw [HWB.out] at hq5; simp only [leP_length]; have R11 := h11d.below hb5 h11.lt) | skip))); refine hK _ _ ?_ ?_; (exact trivial); clear hK; try simp only [Act.put, List.setIfInBounds_toArray, List.set_cons_zero, List.set_cons_succ])); refine linN_end ?_)
                  have hrow := hu2.row
                  rw [show min 4 (64 - 4 * i) = 4 by omega, List.toList_toArray, ← bv_take, ← bv_take, ← bv_drop, List.take_of_length_le (l := Y) (by rw [HYL.out]; omega), ← bv_append, ← bv_append, HST.out, ← HO1.out] at hrow
                  have k7 : Row wr.drew (w.heap.size + 3) _ _ := h7
                  have k10 : Row wr.drew d10 _ _ := h10
                  have k6 : Row wr.drew (w.heap.size + 2) _ _ := h6
                  have q7 := (k7.below hb5 h7.lt).upd hu2 (by omega)
                  have q10 := (k10.below hb5 h10.lt).upd hu2 (by omega)
                  have q6 := (k6.below hb5 h6.lt).upd hu2 (by omega)
                  have hsb : w.heap.size ≤ wr.drew.heap.size := by show _ ≤ wr.heap.size; omega
                  have qB := (below_drew hB).trans ((hb5.mono hsb).trans (hu2.below (by omega)))
                  clear h7 h10 h11 h6 hB hsl cS cD hN hw4 hw5 hw6 hu2 hb5 ho5 hq5 R11 h11d k7 k10 k6
                  go_wp2
                  go_roundw
                  case rel => exact ⟨i + 1, by omega, by go_num, q7, q10, hrow, q6, qB⟩
                  case measure => simp [intOf]; omega
                · obtain rfl : i = 16 := by omega
                  rw [← HE10.out, HOE.out] at h11
                  have hbl : BL.length = 64 := by rw [← HOE.out, outP_length _ _ (Nat.le_refl _)]
                  have HBL := Lib.hid hbl
                  clear hbl
                  have hba := bv_all BL
                  go_wp2_with (first | (apply wpl_loadS (ty := 123); rfl; rfl; rfl; kernel_rfl; exact h11; (simp only [List.size_toArray, bv_length, HBL.out]; kernel_rfl); simp only [Act.put, List.setIfInBounds_toArray, List.set_cons_zero, List.set_cons_succ]) | (apply wpl_storeX; rfl; rfl; rfl; rfl; exact h6; (simp only [List.size_toArray, bv_length, HBL.out]; kernel_rfl); (simp only [List.size_toArray, bv_length, HBL.out]; rfl); exact hba; intro W6 hW6; simp only [Act.put]))
                  refine bodyPost_ret (results_cell1 rfl rfl (run_loadRow _ _ _ _ _ 0 hW6.row (by simp only [List.size_toArray, bv_length, HBL.out]; kernel_rfl) (by kernel_rfl))) rfl ⟨by rw [HBK.out], hB.trans (hW6.below (by omega))⟩
end Go.Proofs.Ytmdmhjcdaejlkaa

/- A block of the stream, the reference's. -/
set_option linter.unusedVariables false
set_option linter.unusedSimpArgs false
namespace Go.Proofs.Ytmdmhjcdaejlkaa
open Go.RowKit

/-- k bytes of word i are laid -/
def outQ (P0 Y : List UInt8) (i k : Nat) : List UInt8 := P0.take (4 * i) ++ (Y.take k ++ P0.drop (4 * i + k))
theorem outQ_zero (P0 Y : List UInt8) (i : Nat) : outQ P0 Y i 0 = P0 := by simp [outQ]
theorem outQ_length {P0 Y : List UInt8} {i k : Nat} (h : P0.length = 64) (hY : Y.length = 4) (hi : i < 16) (hk : k ≤ 4) : (outQ P0 Y i k).length = 64 := by simp [outQ]; omega
theorem outQ_end {P0 Y P1 : List UInt8} {i : Nat} (hY : Y.length = 4) (h : P0.take (4 * i) ++ (Y ++ P0.drop (4 * i + 4)) = P1) : outQ P0 Y i 4 = P1 := by
  unfold outQ
  rw [List.take_of_length_le (l := Y) (by omega)]
  exact h
theorem bv_setB (xs : List UInt8) (j : Nat) (b : UInt8) : (bv xs).toArray.setIfInBounds j (.int .u8 (b.toNat : Int)) = (bv (xs.set j b)).toArray := by simp [bv, List.map_set]
theorem outQ_step {P0 Y : List UInt8} {i k : Nat} (h : P0.length = 64) (hY : Y.length = 4) (hi : i < 16) (hk : k < 4) : (outQ P0 Y i k).set (4 * i + k) (Y.getD k 0) = outQ P0 Y i (k + 1) := by
  apply List.ext_getElem?
  intro j
  unfold outQ
  rw [List.getElem?_set]
  simp only [List.getElem?_append, List.getElem?_take, List.getElem?_drop, List.length_append, List.length_take, List.length_drop]
  have e1 : min (4 * i) P0.length = 4 * i := by omega
  have e2 : min k Y.length = k := by omega
  have e3 : min (k + 1) Y.length = k + 1 := by omega
  rw [e1, e2, e3]
  rcases Nat.lt_trichotomy j (4 * i + k) with hj | hj | hj
  · have n1 : ¬ (4 * i + k = j) := by omega
    rcases Nat.lt_or_ge j (4 * i) with h4 | h4
    · simp [n1, h4]
    · have n2 : ¬ j < 4 * i := by omega
      have n3 : j - 4 * i < k := by omega
      have n4 : j - 4 * i < k + 1 := by omega
      simp [n1, n2, n3, n4]
  · subst hj
    have n2 : ¬ 4 * i + k < 4 * i := by omega
    have n5 : 4 * i + k - 4 * i = k := by omega
    have n6 : 4 * i + k < 4 * i + (k + (P0.length - (4 * i + k))) := by omega
    rw [if_pos rfl, if_pos n6, if_neg n2, n5, if_pos (by omega), if_pos (by omega), List.getD_eq_getElem?_getD, List.getElem?_eq_getElem (by omega)]
    rfl
  · have n1 : ¬ (4 * i + k = j) := by omega
    have n2 : ¬ j < 4 * i := by omega
    have n3 : ¬ j - 4 * i < k := by omega
    have n4 : ¬ j - 4 * i < k + 1 := by omega
    rw [if_neg n1, if_neg n2, if_neg n3, if_neg n2, if_neg n4]
    congr 1
    omega
set_option maxHeartbeats 4000000 in
set_option maxRecDepth 100000 in
theorem c_rBlock (key nonce : List UInt8) (ctr : Nat) (hk : key.length = 32) (hn : nonce.length = 12) (hc : ctr < 4294967296) (w : World) :
    Calls Try.prog 89 #[.agg (bv key).toArray, .agg (bv nonce).toArray, .int .u32 (ctr : Int)] w fun e w' => e = .returned (.agg (bv (blockL key nonce ctr)).toArray) ∧ Below w.heap.size w w' := by
  have HK := Lib.hid hk
  have HN := Lib.hid hn
  clear hk hn
  go_enter Try.func89, Try.ntmps89
  go_wp2_with fail
  obtain ⟨h3, h4, h6, h7, hz, hB⟩ := alloc4 w (bv key).toArray 22 (bv nonce).toArray 43 (bv (List.replicate 64 0)).toArray 123 (wv (initA key 0)).toArray 128
  have HZ := Lib.hid hz
  clear hz
  go_loopw [8] (fun s14 wr => ∃ i : Nat, i ≤ 8 ∧ s14 = .int .i64 (i : Int) ∧ Row wr (w.heap.size + 3) (wv (initA key i)).toArray 128 ∧ Row wr w.heap.size (bv key).toArray 22 ∧ Row wr (w.heap.size + 1) (bv nonce).toArray 43 ∧ Row wr (w.heap.size + 2) (bv (List.replicate 64 0)).toArray 123 ∧ Below w.heap.size w wr) (fun i _ => (8 - intOf i).toNat)
  case atStart => exact ⟨0, by omega, rfl, h7, h3, h4, h6, hB⟩
  case round =>
    clear h7 h3 h4 h6 hB HZ
    obtain ⟨i, hi, rfl, h7, h3, h4, h6, hB⟩ := hrel
    by_cases hlt : i < 8
    · have hRd := row_part h3 (4 * i) 4 (by rw [HK.out]; omega)
      have hw8 : leN (((key.drop (4 * i)).take 4).take 8) = leN ((key.drop (4 * i)).take 4) := by rw [List.take_of_length_le (l := (key.drop (4 * i)).take 4) (by rw [List.length_take]; omega)]
      have HW := Lib.hid hw8
      clear hw8
      have hst := initA_step key hlt
      have hln := initA_length key (i := i) (by omega)
      obtain ⟨w0, w1⟩ := wordAt_range key i
      have hwa : ((leN ((key.drop (4 * i)).take 4) : Nat) : Int) = wordAt key i := rfl
      have HWA := Lib.hid hwa
      have HST := Lib.hid hst
      have HLN := Lib.hid hln
      clear hst hln hwa
      generalize wordAt key i = wd at *
      have hsl := slice_arr (P := Try.prog) (t := 22) Try.underlying22 (by kernel_rfl) w.heap.size (4 * (i : Int)) (4 * (i : Int) + 4) (4 * i) (4 * i + 4) (by omega) (by omega) (by omega) (by omega) (by omega)
      rw [show 4 * i + 4 - 4 * i = 4 by omega] at hsl
      go_wp2_with (first | (go_at_call 67; refine (c_rGet _ _ _ ((key.drop (4*i)).take 4) _ hRd (by decide)).mono ?_; rintro e w' ⟨rfl, rfl⟩; rw [HW.out, HWA.out]) | (apply wpl_storeY'; rfl; rfl; rfl; (focus (go_simp; try rfl)); kernel_rfl; rfl; rfl; exact h7; (simp only [List.size_toArray, wv_length, HLN.out]; omega); intro W1 hW1; simp only [Act.put]))
      have hrow := hW1.row
      rw [wv_set, HST.out] at hrow
      go_roundw
      case rel => exact ⟨i + 1, by omega, by go_num, hrow, h3.upd hW1 (by omega), h4.upd hW1 (by omega), h6.upd hW1 (by omega), hB.trans (hW1.below (by omega))⟩
      case measure => simp [intOf]; omega
    · obtain rfl : i = 8 := by omega
      simp only [show ((8 : Nat) : Int) = 8 from rfl]
      have hln := initA_length key (i := 8) (by omega)
      have HLN := Lib.hid hln
      clear hln
      go_wp2_with (apply wpl_storeY'; rfl; rfl; rfl; (focus (go_simp; try rfl)); kernel_rfl; rfl; rfl; exact h7; (simp only [List.size_toArray, wv_length, HLN.out]; omega); intro W1 hW1; simp only [Act.put])
      have k7 := hW1.row
      rw [wv_set, initA_last key nonce ctr] at k7
      have k3 := h3.upd hW1 (by omega)
      have k4 := h4.upd hW1 (by omega)
      have k6 := h6.upd hW1 (by omega)
      have kB := hB.trans (hW1.below (by omega))
      clear h7 h3 h4 h6 hB hW1 HLN
      go_loopw [9] (fun s31 wr => ∃ i : Nat, i ≤ 3 ∧ s31 = .int .i64 (i : Int) ∧ Row wr (w.heap.size + 3) (wv (initB key nonce ctr i)).toArray 128 ∧ Row wr (w.heap.size + 1) (bv nonce).toArray 43 ∧ Row wr (w.heap.size + 2) (bv (List.replicate 64 0)).toArray 123 ∧ Below w.heap.size w wr) (fun i _ => (3 - intOf i).toNat)
      case atStart => exact ⟨0, by omega, rfl, k7, k4, k6, kB⟩
      case round =>
        clear k7 k3 k4 k6 kB
        obtain ⟨i, hi, rfl, h7, h4, h6, hB⟩ := hrel
        by_cases hlt : i < 3
        · have hRd := row_part h4 (4 * i) 4 (by rw [HN.out]; omega)
          have hw8 : leN (((nonce.drop (4 * i)).take 4).take 8) = leN ((nonce.drop (4 * i)).take 4) := by rw [List.take_of_length_le (l := (nonce.drop (4 * i)).take 4) (by rw [List.length_take]; omega)]
          have HW := Lib.hid hw8
          clear hw8
          have hst := initB_step key nonce ctr hlt
          have hln := initB_length key nonce ctr (i := i) (by omega)
          obtain ⟨w0, w1⟩ := wordAt_range nonce i
          have hwa : ((leN ((nonce.drop (4 * i)).take 4) : Nat) : Int) = wordAt nonce i := rfl
          have HWA := Lib.hid hwa
          have HST := Lib.hid hst
          have HLN := Lib.hid hln
          clear hst hln hwa
          generalize wordAt nonce i = wd at *
          have hsl := slice_arr (P := Try.prog) (t := 43) Try.underlying43 (by kernel_rfl) (w.heap.size + 1) (4 * (i : Int)) (4 * (i : Int) + 4) (4 * i) (4 * i + 4) (by omega) (by omega) (by omega) (by omega) (by omega)
          rw [show 4 * i + 4 - 4 * i = 4 by omega] at hsl
          go_wp2_with (first | (go_at_call 67; refine (c_rGet _ _ _ ((nonce.drop (4*i)).take 4) _ hRd (by decide)).mono ?_; rintro e w' ⟨rfl, rfl⟩; rw [HW.out, HWA.out]) | (apply wpl_storeY'; rfl; rfl; rfl; (focus (go_simp; try rfl)); kernel_rfl; rfl; rfl; exact h7; (simp only [List.size_toArray, wv_length, HLN.out]; omega); intro W1 hW1; simp only [Act.put]))
          have hrow := hW1.row
          rw [wv_set, HST.out] at hrow
          go_roundw
          case rel => exact ⟨i + 1, by omega, by go_num, hrow, h4.upd hW1 (by omega), h6.upd hW1 (by omega), hB.trans (hW1.below (by omega))⟩
          case measure => simp [intOf]; omega
        · obtain rfl : i = 3 := by omega
          simp only [show ((3 : Nat) : Int) = 3 from rfl]
          have hln := initB_length key nonce ctr (i := 3) (by omega)
          rw [initB_last] at h7 hln
          have HOE : IsBlk _ _ := ⟨outP_end key nonce ctr⟩
          have HBK : IsB key nonce ctr (blockL key nonce ctr) := ⟨rfl⟩
          generalize blockL key nonce ctr = BL at *
          generalize initW key nonce ctr = S at *
          have HLN := Lib.hid hln
          clear hln
          have hall := wv_all S
          go_upto_region 12 with (first | (apply wpl_loadS (ty := 128); rfl; rfl; rfl; kernel_rfl; exact h7; (simp only [List.size_toArray, wv_length, HLN.out]; kernel_rfl); simp only [Act.put, List.setIfInBounds_toArray, List.set_cons_zero, List.set_cons_succ]) | (apply wpl_storeN; rfl; rfl; rfl; (first | rfl | simp); rfl; (simp only [List.size_toArray, wv_length, HLN.out]; kernel_rfl); (simp only [List.size_toArray, wv_length, HLN.out]; rfl); exact hall; simp only [Act.put]))
          have g7 := h7.alloc (.cells (wv S).toArray 128)
          have g6 := h6.alloc (.cells (wv S).toArray 128)
          have g10 := Row.new wr (wv S).toArray 128
          have hz := h7.lt
          have gB := hB.trans (belowB_alloc (B := w.heap.size) (w := wr) (by omega) (.cells (wv S).toArray 128))
          generalize wr.alloc (.cells (wv S).toArray 128) = w2 at *
          generalize wr.heap.size = d10 at *
          clear h7 h4 h6 hB
          go_wp2_with fail
          go_loopw [11] (fun s47 wr => ∃ k : Nat, k ≤ 10 ∧ s47 = .int .i64 (k : Int) ∧ Row wr (w.heap.size + 3) (wv S).toArray 128 ∧ Row wr d10 (wv (doubles S k)).toArray 128 ∧ Row wr (w.heap.size + 2) (bv (List.replicate 64 0)).toArray 123 ∧ Below w.heap.size w wr) (fun i _ => (10 - intOf i).toNat)
          case atStart => exact ⟨0, by omega, rfl, g7, g10, g6, gB⟩
          case round =>
            clear g7 g10 g6 gB
            obtain ⟨k, hk, rfl, h7, h10, h6, hB⟩ := hrel
            have hdl : (doubles S k).length = 16 := by rw [doubles_length, HLN.out]
            have HDL := Lib.hid hdl
            clear hdl
            by_cases hlt : k < 10
            · have hdn : (doubles S (k + 1)).length = 16 := by rw [doubles_length, HLN.out]
              have HDN := Lib.hid hdn
              have HDS : IsDbl (doubles S k) (doubles S (k + 1)) := ⟨rfl⟩
              clear hdn
              have hal2 := wv_all (doubles S (k + 1))
              have HE : IsD S (k + 1) (doubles S (k + 1)) := ⟨rfl⟩
              generalize doubles S (k + 1) = Dn at *
              generalize doubles S k = Dk at *
              go_upto_region 14 with (first | (apply wpl_loadS (ty := 128); rfl; rfl; rfl; kernel_rfl; exact h10; (simp only [List.size_toArray, wv_length, HDL.out]; kernel_rfl); simp only [Act.put, List.setIfInBounds_toArray, List.set_cons_zero, List.set_cons_succ]) | (go_at_call 95; refine (c_rDouble Dk HDL.out _).mono ?_; rintro e w3 ⟨rfl, hb3⟩; rw [HDS.out]) | (apply wpl_storeX (cells := (wv Dn).toArray); rfl; rfl; rfl; rfl; exact h10.below hb3 h10.lt; (simp only [List.size_toArray, wv_length, HDN.out]; kernel_rfl); (simp only [List.size_toArray, wv_length, HDL.out, HDN.out]); exact hal2; intro W6 hW6; simp only [Act.put]))
              have k10 := hW6.row
              have k7 := (h7.below hb3 h7.lt).upd hW6 (by omega)
              have k6 := (h6.below hb3 h6.lt).upd hW6 (by omega)
              have l10 := h10.lt
              have kB := hB.trans ((hb3.mono (by omega)).trans (hW6.below (by omega)))
              clear h10 h7 h6 hB hb3 hW6
              go_wp2
              rw [← HE.out] at k10
              go_roundw
              case rel => exact ⟨k + 1, by omega, by go_num, k7, k10, k6, kB⟩
              case measure => simp [intOf]; omega
            · obtain rfl : k = 10 := by omega
              simp only [show ((10 : Nat) : Int) = 10 from rfl]
              have HE10 : IsD S 10 (doubles S 10) := ⟨rfl⟩
              generalize doubles S 10 = D at *
              go_wp2_with fail
              have g11 := Row.new wr (bv (outP S D 0)).toArray 123
              have g7 := h7.alloc (.cells (bv (outP S D 0)).toArray 123)
              have g10 := h10.alloc (.cells (bv (outP S D 0)).toArray 123)
              have g6 := h6.alloc (.cells (bv (outP S D 0)).toArray 123)
              have l10 := h10.lt
              have l7 := h7.lt
              have gB := hB.trans (belowB_alloc (B := w.heap.size) (w := wr) (by omega) (.cells (bv (outP S D 0)).toArray 123))
              generalize wr.heap.size = gO at *
              go_loopw [13] (fun s52 wq => ∃ i : Nat, i ≤ 16 ∧ s52 = .int .i64 (i : Int) ∧ Row wq (w.heap.size + 3) (wv S).toArray 128 ∧ Row wq d10 (wv D).toArray 128 ∧ Row wq gO (bv (outP S D i)).toArray 123 ∧ Row wq (w.heap.size + 2) (bv (List.replicate 64 0)).toArray 123 ∧ Below w.heap.size w wq) (fun i _ => (16 - intOf i).toNat)
              case atStart => exact ⟨0, by omega, rfl, g7, g10, g11, g6, gB⟩
              case round =>
                clear g7 g10 g11 g6 gB h7 h10 h6 hB
                obtain ⟨i, hi, rfl, h7, h10, h11, h6, hB⟩ := hrel
                by_cases hlt : i < 16
                · have hN : (D.getD i 0 + S.getD i 0) % 4294967296 = (((addW (S.getD i 0) (D.getD i 0)).toNat : Nat) : Int) := by unfold addW; rw [Int.add_comm]; omega
                  have hNl : (addW (S.getD i 0) (D.getD i 0)).toNat < 4294967296 := by unfold addW; omega
                  have hwb : leP (addW (S.getD i 0) (D.getD i 0)).toNat 4 = wbytes S D i := rfl
                  have HWB := Lib.hid hwb
                  have cS := wv_cell h7 (j := i) (by rw [HLN.out]; exact hlt)
                  have cD := wv_cell h10 (j := i) (by rw [HDL.out]; exact hlt)
                  clear hwb
                  generalize (addW (S.getD i 0) (D.getD i 0)).toNat = N at *
                  generalize S.getD i 0 = x at *
                  generalize D.getD i 0 = y at *
                  have b7 := h7.lt
                  have b10 := h10.lt
                  have hlt2 : (i : Int) < 16 := by omega
                  have hol := outP_length S D hi
                  have hst := outP_step S D hlt
                  have HOL := Lib.hid hol
                  have HST := Lib.hid hst
                  clear hol hst
                  have hw5 : IntKind.u32.wrap (y + x) = (N : Int) := hN
                  have hyl := wbytes_length S D i
                  have HYL := Lib.hid hyl
                  clear hyl
                  have HO1 : IsOut S D (i + 1) (outP S D (i + 1)) := ⟨rfl⟩
                  generalize outP S D (i + 1) = P1 at *
                  generalize outP S D i = P0 at *
                  generalize wbytes S D i = Y at *
                  go_upto_region 20 with fail
                  (refine wp_region_linN (Below wr.heap.size) (Below wr.heap.size) (wayB _) (wayB _) (fun _ _ h => h) (.free 0 (.free 1 (.hot 2 (.free 3 (.free 4 (.hot 5 (.free 6 (.free 7 .nil)))))))) rfl (by kernel_rfl) (by kernel_rfl) (fun _ _ _ _ _ h => h) ?_; (first | (apply linN_free; (simp only [List.getElem?_toArray, List.getElem?_cons_succ, List.getElem?_cons_zero]; rfl); (rfl); (intro w'; (first | (go_simp; done) | (go_simp; with_reducible rfl) | (go_simp; go_bits; with_reducible rfl) | (go_simp; go_bits; done))); try simp only [Act.put, List.setIfInBounds_toArray, List.set_cons_zero, List.set_cons_succ]) | (apply linN_freeSkip; (simp only [List.getElem?_toArray, List.getElem?_cons_succ, List.getElem?_cons_zero]; rfl); (rfl); try simp only [Act.put, List.setIfInBounds_toArray, List.set_cons_zero, List.set_cons_succ])); (first | (apply linN_free; (simp only [List.getElem?_toArray, List.getElem?_cons_succ, List.getElem?_cons_zero]; rfl); (rfl); (intro w'; (first | (go_simp; done) | (go_simp; with_reducible rfl) | (go_simp; go_bits; with_reducible rfl) | (go_simp; go_bits; done))); try simp only [Act.put, List.setIfInBounds_toArray, List.set_cons_zero, List.set_cons_succ]) | (apply linN_freeSkip; (simp only [List.getElem?_toArray, List.getElem?_cons_succ, List.getElem?_cons_zero]; rfl); (rfl); try simp only [Act.put, List.setIfInBounds_toArray, List.set_cons_zero, List.set_cons_succ])); (first | (apply linN_hot; (simp only [List.getElem?_toArray, List.getElem?_cons_succ, List.getElem?_cons_zero]; rfl); (rfl); (intro w' hb'; (try have k_cS := keepB (by first | assumption | omega | (simp; done) | (simp; omega)) hb' cS); (try have k_cD := keepB (by first | assumption | omega | (simp; done) | (simp; omega)) hb' cD); (first | (go_simp; done) | (go_simp; with_reducible rfl) | (go_simp; go_bits; with_reducible rfl) | (go_simp; go_bits; done))); try simp only [Act.put, List.setIfInBounds_toArray, List.set_cons_zero, List.set_cons_succ]) | (apply linN_hotSkip; (simp only [List.getElem?_toArray, List.getElem?_cons_succ, List.getElem?_cons_zero]; rfl); (rfl); try simp only [Act.put, List.setIfInBounds_toArray, List.set_cons_zero, List.set_cons_succ])); (first | (apply linN_free; (simp only [List.getElem?_toArray, List.getElem?_cons_succ, List.getElem?_cons_zero]; rfl); (rfl); (intro w'; (first | (go_simp; done) | (go_simp; with_reducible rfl) | (go_simp; go_bits; with_reducible rfl) | (go_simp; go_bits; done))); try simp only [Act.put, List.setIfInBounds_toArray, List.set_cons_zero, List.set_cons_succ]) | (apply linN_freeSkip; (simp only [List.getElem?_toArray, List.getElem?_cons_succ, List.getElem?_cons_zero]; rfl); (rfl); try simp only [Act.put, List.setIfInBounds_toArray, List.set_cons_zero, List.set_cons_succ])); (first | (apply linN_free; (simp only [List.getElem?_toArray, List.getElem?_cons_succ, List.getElem?_cons_zero]; rfl); (rfl); (intro w'; (first | (go_simp; done) | (go_simp; with_reducible rfl) | (go_simp; go_bits; with_reducible rfl) | (go_simp; go_bits; done))); try simp only [Act.put, List.setIfInBounds_toArray, List.set_cons_zero, List.set_cons_succ]) | (apply linN_freeSkip; (simp only [List.getElem?_toArray, List.getElem?_cons_succ, List.getElem?_cons_zero]; rfl); (rfl); try simp only [Act.put, List.setIfInBounds_toArray, List.set_cons_zero, List.set_cons_succ])); (first | (apply linN_hot; (simp only [List.getElem?_toArray, List.getElem?_cons_succ, List.getElem?_cons_zero]; rfl); (rfl); (intro w' hb'; (try have k_cS := keepB (by first | assumption | omega | (simp; done) | (simp; omega)) hb' cS); (try have k_cD := keepB (by first | assumption | omega | (simp; done) | (simp; omega)) hb' cD); (first | (go_simp; done) | (go_simp; with_reducible rfl) | (go_simp; go_bits; with_reducible rfl) | (go_simp; go_bits; done))); try simp only [Act.put, List.setIfInBounds_toArray, List.set_cons_zero, List.set_cons_succ]) | (apply linN_hotSkip; (simp only [List.getElem?_toArray, List.getElem?_cons_succ, List.getElem?_cons_zero]; rfl); (rfl); try simp only [Act.put, List.setIfInBounds_toArray, List.set_cons_zero, List.set_cons_succ])); (first | (apply linN_free; (simp only [List.getElem?_toArray, List.getElem?_cons_succ, List.getElem?_cons_zero]; rfl); (rfl); (intro w'; (first | (go_simp; done) | (go_simp; with_reducible rfl) | (go_simp; go_bits; with_reducible rfl) | (go_simp; go_bits; done))); try simp only [Act.put, List.setIfInBounds_toArray, List.set_cons_zero, List.set_cons_succ]) | (apply linN_freeSkip; (simp only [List.getElem?_toArray, List.getElem?_cons_succ, List.getElem?_cons_zero]; rfl); (rfl); try simp only [Act.put, List.setIfInBounds_toArray, List.set_cons_zero, List.set_cons_succ])); (first | (apply linN_free; (simp only [List.getElem?_toArray, List.getElem?_cons_succ, List.getElem?_cons_zero]; rfl); (rfl); (intro w'; (first | (go_simp; done) | (go_simp; with_reducible rfl) | (go_simp; go_bits; with_reducible rfl) | (go_simp; go_bits; done))); try simp only [Act.put, List.setIfInBounds_toArray, List.set_cons_zero, List.set_cons_succ]) | (apply linN_freeSkip; (simp only [List.getElem?_toArray, List.getElem?_cons_succ, List.getElem?_cons_zero]; rfl); (rfl); try simp only [Act.put, List.setIfInBounds_toArray, List.set_cons_zero, List.set_cons_succ])); refine linN_end ?_)
                  go_wp2_with fail
                  have k7 : Row wr.drew (w.heap.size + 3) _ _ := h7
                  have k10 : Row wr.drew d10 _ _ := h10
                  have k6 : Row wr.drew (w.heap.size + 2) _ _ := h6
                  have k11 : Row wr.drew gO _ _ := h11
                  have kB := below_drew hB
                  rw [← outQ_zero P0 Y i] at k11
                  clear h7 h10 h11 h6 hB cS cD hN hw5
                  generalize wr.drew = wd at *
                  go_loopw [15] (fun s15 wr => ∃ k : Nat, k ≤ 4 ∧ s15 = .int .i64 (k : Int) ∧ Row wr (w.heap.size + 3) (wv S).toArray 128 ∧ Row wr d10 (wv D).toArray 128 ∧ Row wr gO (bv (outQ P0 Y i k)).toArray 123 ∧ Row wr (w.heap.size + 2) (bv (List.replicate 64 0)).toArray 123 ∧ Below w.heap.size w wr) (fun i _ => (4 - intOf i).toNat)
                  case atStart => exact ⟨0, by omega, rfl, k7, k10, k11, k6, kB⟩
                  case round =>
                    clear k7 k10 k11 k6 kB
                    obtain ⟨k, hk, rfl, h7, h10, h11, h6, hB⟩ := hrel
                    by_cases hlk : k < 4
                    · have hol : (outQ P0 Y i k).length = 64 := outQ_length HOL.out HYL.out hlt hk
                      have hst := outQ_step HOL.out HYL.out hlt hlk
                      have HQL := Lib.hid hol
                      have HQS := Lib.hid hst
                      clear hol hst
                      have hby : (N : Int) / 2 ^ (8 * k) % 256 = ((Y.getD k 0).toNat : Int) := by
                        rw [sh_byte, ← HWB.out]
                        congr 2
                        simp [leP, hlk]
                      go_wp2_with (apply wpl_storeY'; rfl; rfl; rfl; (focus (go_simp; try rfl)); kernel_rfl; rfl; rfl; exact h11; (simp only [List.size_toArray, bv_length, HQL.out]; omega); intro W1 hW1; simp only [Act.put])
                      have hrow := hW1.row
                      rw [← List.getD_eq_getElem?_getD, bv_setB, HQS.out] at hrow
                      have q7 := h7.upd hW1 (by omega)
                      have q10 := h10.upd hW1 (by omega)
                      have q6 := h6.upd hW1 (by omega)
                      have qB := hB.trans (hW1.below (by omega))
                      clear h7 h10 h11 h6 hB hW1 hby
                      go_roundw
                      case rel => exact ⟨k + 1, by omega, by go_num, q7, q10, hrow, q6, qB⟩
                      case measure => simp [intOf]; omega
                    · obtain rfl : k = 4 := by omega
                      rw [outQ_end HYL.out HST.out, ← HO1.out] at h11
                      go_wp2
                      go_roundw
                      case rel => exact ⟨i + 1, by omega, by go_num, h7, h10, h11, h6, hB⟩
                      case measure => simp [intOf]; omega
                · obtain rfl : i = 16 := by omega
                  rw [← HE10.out, HOE.out] at h11
                  have hbl : BL.length = 64 := by rw [← HOE.out, outP_length _ _ (Nat.le_refl _)]
                  have HBL := Lib.hid hbl
                  clear hbl
                  have hba := bv_all BL
                  go_wp2_with (first | (apply wpl_loadS (ty := 123); rfl; rfl; rfl; kernel_rfl; exact h11; (simp only [List.size_toArray, bv_length, HBL.out]; kernel_rfl); simp only [Act.put, List.setIfInBounds_toArray, List.set_cons_zero, List.set_cons_succ]) | (apply wpl_storeX; rfl; rfl; rfl; rfl; exact h6; (simp only [List.size_toArray, bv_length, HBL.out]; kernel_rfl); (simp only [List.size_toArray, bv_length, HBL.out]; rfl); exact hba; intro W6 hW6; simp only [Act.put]))
                  refine bodyPost_ret (results_cell1 rfl rfl (run_loadRow _ _ _ _ _ 0 hW6.row (by simp only [List.size_toArray, bv_length, HBL.out]; kernel_rfl) (by kernel_rfl))) rfl ⟨by rw [HBK.out], hB.trans (hW6.below (by omega))⟩
end Go.Proofs.Ytmdmhjcdaejlkaa

/- Bytes, exclusive or with the stream: the program's walk. -/
set_option linter.unusedVariables false
set_option linter.unusedSimpArgs false
namespace Go.Proofs.Ytmdmhjcdaejlkaa
open Go.RowKit

/-- the first m bytes are turned -/
def xorTo (key nonce xs : List UInt8) (m : Nat) : List UInt8 := (xorL key nonce xs).take m ++ xs.drop m
theorem xorTo_zero (key nonce xs : List UInt8) : xorTo key nonce xs 0 = xs := by simp [xorTo]
theorem xorTo_length (key nonce xs : List UInt8) (m : Nat) : (xorTo key nonce xs m).length = xs.length := by simp [xorTo, xorL_length]; omega
theorem xorTo_end (key nonce xs : List UInt8) {m : Nat} (h : xs.length ≤ m) : xorTo key nonce xs m = xorL key nonce xs := by
  unfold xorTo
  rw [List.take_of_length_le (by rw [xorL_length]; exact h), List.drop_of_length_le h, List.append_nil]
theorem xorTo_at (key nonce xs : List UInt8) {m : Nat} (h : m < xs.length) : (xorTo key nonce xs m).getD m 0 = xs.getD m 0 := by
  unfold xorTo
  have hl : ((xorL key nonce xs).take m).length = m := by rw [List.length_take, xorL_length]; omega
  rw [List.getD_eq_getElem?_getD, List.getElem?_append_right (by omega), hl, Nat.sub_self, List.getElem?_drop, Nat.add_zero, List.getD_eq_getElem?_getD]
theorem xorTo_step (key nonce xs : List UInt8) {m : Nat} (h : m < xs.length) : (xorTo key nonce xs m).set m (xs.getD m 0 ^^^ strmB key nonce m) = xorTo key nonce xs (m + 1) := by
  unfold xorTo
  have hx : (xorL key nonce xs)[m]? = some (xs.getD m 0 ^^^ strmB key nonce m) := by
    unfold xorL
    rw [List.getElem?_mapIdx, List.getElem?_eq_getElem h, List.getD_eq_getElem?_getD, List.getElem?_eq_getElem h]
    rfl
  have hl : ((xorL key nonce xs).take m).length = m := by rw [List.length_take, xorL_length]; omega
  rw [List.set_append_right _ _ (by omega), hl, Nat.sub_self, List.drop_eq_getElem_cons h, List.set_cons_zero]
  have hm : m < (xorL key nonce xs).length := by rw [xorL_length]; exact h
  rw [List.take_succ_eq_append_getElem hm]
  rw [List.getElem?_eq_getElem hm] at hx
  rw [Option.some.inj hx]
  simp
/-- byte i of block k is byte 64 k + i of the stream -/
theorem strmB_at (key nonce : List UInt8) (k i : Nat) (h : i < 64) : strmB key nonce (64 * k + i) = (blockL key nonce k).getD i 0 := by
  unfold strmB
  rw [show (64 * k + i) / 64 = k by omega, show (64 * k + i) % 64 = i by omega]
theorem u8_xor (a b : UInt8) : bits .xor .u8 (a.toNat : Int) (b.toNat : Int) = ((a ^^^ b).toNat : Int) := by
  rw [Go.u8_xor_nat _ _ a.toNat_lt b.toNat_lt, UInt8.toNat_xor]
structure IsX (key nonce xs : List UInt8) (m : Nat) (ys : List UInt8) : Prop where
  out : xorTo key nonce xs m = ys
structure IsBk (key nonce : List UInt8) (k : Nat) (ys : List UInt8) : Prop where
  out : blockL key nonce k = ys
set_option maxHeartbeats 4000000 in
set_option maxRecDepth 100000 in
theorem c_xor (key nonce : List UInt8) (hk : key.length = 32) (hn : nonce.length = 12) (A : Option Addr) (c : Nat) (xs : List UInt8) (w : World) (hr : RdB w A xs.length xs) (hm : xs.length ≤ 1000000) :
    Calls Try.prog 87 #[.agg (bv key).toArray, .agg (bv nonce).toArray, .int .u32 0, .slice A xs.length c] w fun e w' => ∃ v, e = .returned (.tuple #[v, .bool true]) ∧ OwnB w' w.heap.size 5 v (xorL key nonce xs) ∧ Below w.heap.size w w' := by
  have HK := Lib.hid hk
  have HN := Lib.hid hn
  clear hk hn
  obtain ⟨h0, h1, hz, hB⟩ := alloc2 w (bv key).toArray 22 (bv nonce).toArray 43
  have hr1 := hr.below hB (Nat.le_refl _)
  have hHO := OwnB.nil_ ((w.alloc (.cells (bv key).toArray 22)).alloc (.cells (bv nonce).toArray 43)) w.heap.size 5
  clear hr
  generalize hnn : xs.length = n at *
  have HNN := Lib.hid hnn
  clear hnn
  go_enter Try.func87, Try.ntmps87
  generalize hW1 : (w.alloc (.cells (bv key).toArray 22)).alloc (.cells (bv nonce).toArray 43) = W1 at *
  have HW1 := Lib.hid hW1
  clear hW1
  go_upto_region 2 with fail
  rw [HW1.out]
  have hz' : w.heap.size + 1 < W1.heap.size := by omega
  clear hz HW1
  obtain ⟨q, hq⟩ : ∃ q : Int, ((n : Int) + 64 - 1) / 64 = q := ⟨_, rfl⟩
  have hq1 : 0 ≤ q := by omega
  have hq2 : q ≤ 20000 := by omega
  rw [hq]
  clear hq
  have hq3 : q = 0 ∨ 0 < q := by omega
  rcases hq3 with rfl | hq3
  all_goals
    have hm2 : ([] : List UInt8).length + n ≤ 140737488355328 := by simp; omega
    go_wp2_with (at_builtin; refine wpl_cat (w0 := w) rfl _ _ 24 rfl w.heap.size 5 Try.underlying24 info_u8 hHO rfl hr1 rfl hB (by omega) hm2 ?_; intro v1 w1 ho1 hb1 hg1 hv1)
    have k0 : Row w1 w.heap.size (bv key).toArray 22 := (hg1.block _ (by omega) (by simp [Value.ownBlock])).trans h0
    have k1 : Row w1 (w.heap.size + 1) (bv nonce).toArray 43 := (hg1.block _ (by omega) (by simp [Value.ownBlock])).trans h1
    rw [List.nil_append] at ho1
    obtain ⟨A1, ca1, rfl, lc1, -, -⟩ := ho1.form
    rw [HNN.out] at ho1 lc1 ⊢
    clear h0 h1 hB hHO hr1 hg1 hq1 hq2 hm2
    have hgb : ∀ g, A1 = some ⟨g, 0, none⟩ → w.heap.size + 1 < g := by
      intro g e
      subst e
      rcases hv1 with h | h
      · simp [Value.ownBlock] at h
      · simp [Value.ownBlock] at h; omega
    have hsz1 := hb1.size
    clear hv1 hz'
    rw [← xorTo_zero key nonce xs] at ho1
    go_wp2_with fail
    go_loopw [12] (fun s12 wr => ∃ k : Nat, 64 * k < n + 64 ∧ s12 = .int .i64 (64 * (k : Int)) ∧ OwnB wr w.heap.size 5 (.slice A1 n ca1) (xorTo key nonce xs (64 * k)) ∧ Row wr w.heap.size (bv key).toArray 22 ∧ Row wr (w.heap.size + 1) (bv nonce).toArray 43 ∧ Below w.heap.size w wr) (fun i _ => (n + 64 - intOf i).toNat)
    case atStart => exact ⟨0, by omega, rfl, ho1, k0, k1, hb1⟩
    case round =>
      clear ho1 k0 k1 hb1 hsz1
      obtain ⟨k, hk, rfl, ho, h0, h1, hB⟩ := hrel
      have hxl := xorTo_length key nonce xs (64 * k)
      rw [HNN.out] at hxl
      have HXL := Lib.hid hxl
      clear hxl
      by_cases hlt : 64 * k < n
      · have hlt' : 64 * (k : Int) < (n : Int) := by omega
        obtain ⟨g, rfl, hgB, -⟩ := ho.at_ (by rw [HXL.out]; omega)
        have hgg := hgb g rfl
        have hdiv : 64 * (k : Int) / 64 = (k : Int) := by omega
        have hkb : (k : Int) < 20000 := by omega
        have hbl := blockL_length key nonce k
        have HBL := Lib.hid hbl
        have hba := bv_all (blockL key nonce k)
        have HBK : IsBk key nonce k (blockL key nonce k) := ⟨rfl⟩
        have HCB : ∀ w, Calls Try.prog 93 #[.agg (bv key).toArray, .agg (bv nonce).toArray, .int .u32 (k : Int)] w fun e w' => e = .returned (.agg (bv (blockL key nonce k)).toArray) ∧ Below w.heap.size w w' := fun w => c_block key nonce k HK.out HN.out (by omega) w
        have HCC := Lib.hid HCB
        clear hbl HCB
        generalize blockL key nonce k = Bk at *
        go_upto_region 9 with (first | (apply wpl_loadS (ty := 22); rfl; rfl; rfl; kernel_rfl; exact h0; (simp only [List.size_toArray, bv_length, HK.out]; kernel_rfl); simp only [Act.put, List.setIfInBounds_toArray, List.set_cons_zero, List.set_cons_succ]) | (apply wpl_loadS (ty := 43); rfl; rfl; rfl; kernel_rfl; exact h1; (simp only [List.size_toArray, bv_length, HN.out]; kernel_rfl); simp only [Act.put, List.setIfInBounds_toArray, List.set_cons_zero, List.set_cons_succ]) | (go_at_call 93; refine (HCC.out _).mono ?_; rintro e w3 ⟨rfl, hb3⟩) | (apply wpl_storeN; rfl; rfl; rfl; (first | rfl | simp); rfl; (simp only [List.size_toArray, bv_length, HBL.out]; kernel_rfl); (simp only [List.size_toArray, bv_length, HBL.out]; rfl); exact hba; simp only [Act.put]))
        have hb4 : Below wr.heap.size wr (w3.alloc (.cells (bv Bk).toArray 123)) := below_alloc hb3 _
        have r4 := Row.new w3 (bv Bk).toArray 123
        have q0 := h0.below hb4 h0.lt
        have q1 := h1.below hb4 h1.lt
        have qo := ho.below hb4
        have hzw := hB.size
        have qB := hB.trans (hb4.mono hzw)
        have hg3 : g < wr.heap.size := World.block_lt_of_cell? _ _ (ho.cell (k := 0) (by rw [HXL.out]; omega)).1
        have hz3 := hb3.size
        clear h0 h1 ho hB hb3 hb4 hba
        generalize w3.alloc (.cells (bv Bk).toArray 123) = w4 at *
        generalize w3.heap.size = g4 at *
        by_cases h64 : 64 * k + 64 ≤ n
        · have hmin : 64 * (k : Int) + 64 ≤ (n : Int) := by omega
          have hcap : 64 * (k : Int) + 64 ≤ (ca1 : Int) := by omega
          go_wp2_with fail
          rw [show 64 * k + 64 - 64 * k = 64 by omega]
          go_loopw [56] (fun s56 wq => ∃ i : Nat, i ≤ 64 ∧ s56 = .int .i64 (i : Int) ∧ OwnB wq w.heap.size 5 (.slice (some ⟨g, 0, none⟩) n ca1) (xorTo key nonce xs (64 * k + i)) ∧ Row wq g4 (bv Bk).toArray 123 ∧ Row wq w.heap.size (bv key).toArray 22 ∧ Row wq (w.heap.size + 1) (bv nonce).toArray 43 ∧ Below w.heap.size w wq) (fun i _ => (64 - intOf i).toNat)
          case atStart => exact ⟨0, by omega, rfl, qo, r4, q0, q1, qB⟩
          case round =>
            clear qo r4 q0 q1 qB
            obtain ⟨i, hi, rfl, ho, r4, q0, q1, qB⟩ := hrel
            by_cases hil : i < 64
            · have hxl := xorTo_length key nonce xs (64 * k + i)
              rw [HNN.out] at hxl
              obtain ⟨ce, fz⟩ := ho.cell (k := 64 * k + i) (by omega)
              rw [← List.getD_eq_getElem?_getD, xorTo_at key nonce xs (by rw [HNN.out]; omega)] at ce
              have cb := bv_cell r4 (j := i) (by rw [HBL.out]; omega)
              have hset := ho.set (k := 64 * k + i) (by omega) (xs.getD (64 * k + i) 0 ^^^ Bk.getD i 0)
              have hst := strmB_at key nonce k i (by omega)
              rw [HBK.out] at hst
              rw [← hst, xorTo_step key nonce xs (by rw [HNN.out]; omega), hst] at hset
              have hxr := u8_xor (xs.getD (64 * k + i) 0) (Bk.getD i 0)
              generalize xs.getD (64 * k + i) 0 ^^^ Bk.getD i 0 = z at *
              generalize xs.getD (64 * k + i) 0 = x at *
              clear hst hxl ho
              generalize Bk.getD i 0 = y at *
              have hw1 : IntKind.i64.wrap (64 * (k : Int) + (i : Int)) = 64 * (k : Int) + (i : Int) := IntWalk.i64_in _ (by omega)
              have hn1 : (64 * (k : Int) + (i : Int)).toNat = 64 * k + i := by omega
              have hn2 : 64 * (k : Int) + (i : Int) < (n : Int) := by omega
              have hn3 : 0 ≤ 64 * (k : Int) + (i : Int) := by omega
              have hil2 : (i : Int) < 64 := by omega
              have hi64 : (i : Int) < 64 := by omega
              have b4 : g4 < wr.heap.size := r4.lt
              have bg : g < wr.heap.size := World.block_lt_of_cell? _ _ ce
              go_upto_region 12 with fail
              (refine wp_region_linN (Below wr.heap.size) (Below wr.heap.size) (wayB _) (wayB _) (fun _ _ h => h) (.free 0 (.free 1 (.free 2 (.free 3 (.free 4 (.hot 5 (.free 6 (.free 7 (.hot 8 (.free 9 (.free 10 (.op 11 [(5, 11), (8, 11)] [] [] .nil)))))))))))) rfl (by kernel_rfl) (by kernel_rfl) (fun _ _ _ _ _ h => h) ?_; (first | (apply linN_free; (simp only [List.getElem?_toArray, List.getElem?_cons_succ, List.getElem?_cons_zero]; rfl); (rfl); (intro w'; (first | (go_simp; done) | (go_simp; with_reducible rfl) | (go_simp; go_bits; with_reducible rfl) | (go_simp; go_bits; done))); try simp only [Act.put, List.setIfInBounds_toArray, List.set_cons_zero, List.set_cons_succ]) | (apply linN_freeSkip; (simp only [List.getElem?_toArray, List.getElem?_cons_succ, List.getElem?_cons_zero]; rfl); (rfl); try simp only [Act.put, List.setIfInBounds_toArray, List.set_cons_zero, List.set_cons_succ])); (first | (apply linN_free; (simp only [List.getElem?_toArray, List.getElem?_cons_succ, List.getElem?_cons_zero]; rfl); (rfl); (intro w'; (first | (go_simp; done) | (go_simp; with_reducible rfl) | (go_simp; go_bits; with_reducible rfl) | (go_simp; go_bits; done))); try simp only [Act.put, List.setIfInBounds_toArray, List.set_cons_zero, List.set_cons_succ]) | (apply linN_freeSkip; (simp only [List.getElem?_toArray, List.getElem?_cons_succ, List.getElem?_cons_zero]; rfl); (rfl); try simp only [Act.put, List.setIfInBounds_toArray, List.set_cons_zero, List.set_cons_succ])); (first | (apply linN_free; (simp only [List.getElem?_toArray, List.getElem?_cons_succ, List.getElem?_cons_zero]; rfl); (rfl); (intro w'; (first | (go_simp; done) | (go_simp; with_reducible rfl) | (go_simp; go_bits; with_reducible rfl) | (go_simp; go_bits; done))); try simp only [Act.put, List.setIfInBounds_toArray, List.set_cons_zero, List.set_cons_succ]) | (apply linN_freeSkip; (simp only [List.getElem?_toArray, List.getElem?_cons_succ, List.getElem?_cons_zero]; rfl); (rfl); try simp only [Act.put, List.setIfInBounds_toArray, List.set_cons_zero, List.set_cons_succ])); (first | (apply linN_free; (simp only [List.getElem?_toArray, List.getElem?_cons_succ, List.getElem?_cons_zero]; rfl); (rfl); (intro w'; (first | (go_simp; done) | (go_simp; with_reducible rfl) | (go_simp; go_bits; with_reducible rfl) | (go_simp; go_bits; done))); try simp only [Act.put, List.setIfInBounds_toArray, List.set_cons_zero, List.set_cons_succ]) | (apply linN_freeSkip; (simp only [List.getElem?_toArray, List.getElem?_cons_succ, List.getElem?_cons_zero]; rfl); (rfl); try simp only [Act.put, List.setIfInBounds_toArray, List.set_cons_zero, List.set_cons_succ])); (first | (apply linN_free; (simp only [List.getElem?_toArray, List.getElem?_cons_succ, List.getElem?_cons_zero]; rfl); (rfl); (intro w'; (first | (go_simp; done) | (go_simp; with_reducible rfl) | (go_simp; go_bits; with_reducible rfl) | (go_simp; go_bits; done))); try simp only [Act.put, List.setIfInBounds_toArray, List.set_cons_zero, List.set_cons_succ]) | (apply linN_freeSkip; (simp only [List.getElem?_toArray, List.getElem?_cons_succ, List.getElem?_cons_zero]; rfl); (rfl); try simp only [Act.put, List.setIfInBounds_toArray, List.set_cons_zero, List.set_cons_succ])); (first | (apply linN_hot; (simp only [List.getElem?_toArray, List.getElem?_cons_succ, List.getElem?_cons_zero]; rfl); (rfl); (intro w' hb'; (try have k_ce := keepB (by first | assumption | omega | (simp; done) | (simp; omega)) hb' ce); (try have k_cb := keepB (by first | assumption | omega | (simp; done) | (simp; omega)) hb' cb); (first | (go_simp; done) | (go_simp; with_reducible rfl) | (go_simp; go_bits; with_reducible rfl) | (go_simp; go_bits; done))); try simp only [Act.put, List.setIfInBounds_toArray, List.set_cons_zero, List.set_cons_succ]) | (apply linN_hotSkip; (simp only [List.getElem?_toArray, List.getElem?_cons_succ, List.getElem?_cons_zero]; rfl); (rfl); try simp only [Act.put, List.setIfInBounds_toArray, List.set_cons_zero, List.set_cons_succ])); (first | (apply linN_free; (simp only [List.getElem?_toArray, List.getElem?_cons_succ, List.getElem?_cons_zero]; rfl); (rfl); (intro w'; (first | (go_simp; done) | (go_simp; with_reducible rfl) | (go_simp; go_bits; with_reducible rfl) | (go_simp; go_bits; done))); try simp only [Act.put, List.setIfInBounds_toArray, List.set_cons_zero, List.set_cons_succ]) | (apply linN_freeSkip; (simp only [List.getElem?_toArray, List.getElem?_cons_succ, List.getElem?_cons_zero]; rfl); (rfl); try simp only [Act.put, List.setIfInBounds_toArray, List.set_cons_zero, List.set_cons_succ])); (first | (apply linN_free; (simp only [List.getElem?_toArray, List.getElem?_cons_succ, List.getElem?_cons_zero]; rfl); (rfl); (intro w'; (first | (go_simp; done) | (go_simp; with_reducible rfl) | (go_simp; go_bits; with_reducible rfl) | (go_simp; go_bits; done))); try simp only [Act.put, List.setIfInBounds_toArray, List.set_cons_zero, List.set_cons_succ]) | (apply linN_freeSkip; (simp only [List.getElem?_toArray, List.getElem?_cons_succ, List.getElem?_cons_zero]; rfl); (rfl); try simp only [Act.put, List.setIfInBounds_toArray, List.set_cons_zero, List.set_cons_succ])); (first | (apply linN_hot; (simp only [List.getElem?_toArray, List.getElem?_cons_succ, List.getElem?_cons_zero]; rfl); (rfl); (intro w' hb'; (try have k_ce := keepB (by first | assumption | omega | (simp; done) | (simp; omega)) hb' ce); (try have k_cb := keepB (by first | assumption | omega | (simp; done) | (simp; omega)) hb' cb); (first | (go_simp; done) | (go_simp; with_reducible rfl) | (go_simp; go_bits; with_reducible rfl) | (go_simp; go_bits; done))); try simp only [Act.put, List.setIfInBounds_toArray, List.set_cons_zero, List.set_cons_succ]) | (apply linN_hotSkip; (simp only [List.getElem?_toArray, List.getElem?_cons_succ, List.getElem?_cons_zero]; rfl); (rfl); try simp only [Act.put, List.setIfInBounds_toArray, List.set_cons_zero, List.set_cons_succ])); (first | (apply linN_free; (simp only [List.getElem?_toArray, List.getElem?_cons_succ, List.getElem?_cons_zero]; rfl); (rfl); (intro w'; (first | (go_simp; done) | (go_simp; with_reducible rfl) | (go_simp; go_bits; with_reducible rfl) | (go_simp; go_bits; done))); try simp only [Act.put, List.setIfInBounds_toArray, List.set_cons_zero, List.set_cons_succ]) | (apply linN_freeSkip; (simp only [List.getElem?_toArray, List.getElem?_cons_succ, List.getElem?_cons_zero]; rfl); (rfl); try simp only [Act.put, List.setIfInBounds_toArray, List.set_cons_zero, List.set_cons_succ])); (first | (apply linN_free; (simp only [List.getElem?_toArray, List.getElem?_cons_succ, List.getElem?_cons_zero]; rfl); (rfl); (intro w'; (first | (go_simp; done) | (go_simp; with_reducible rfl) | (go_simp; go_bits; with_reducible rfl) | (go_simp; go_bits; done))); try simp only [Act.put, List.setIfInBounds_toArray, List.set_cons_zero, List.set_cons_succ]) | (apply linN_freeSkip; (simp only [List.getElem?_toArray, List.getElem?_cons_succ, List.getElem?_cons_zero]; rfl); (rfl); try simp only [Act.put, List.setIfInBounds_toArray, List.set_cons_zero, List.set_cons_succ])); (first | (apply linN_pass (wayB _) (wayB _); (simp only [List.getElem?_toArray, List.getElem?_cons_succ, List.getElem?_cons_zero]; rfl); (rfl); try simp only [Act.put, List.setIfInBounds_toArray, List.set_cons_zero, List.set_cons_succ]) | (apply linN_op; (simp only [List.getElem?_toArray, List.getElem?_cons_succ, List.getElem?_cons_zero]; rfl); (rfl); intro K hK; (first | (go_simp; (first | skip))); refine hK _ _ ?_ ?_; (exact trivial); clear hK; try simp only [Act.put, List.setIfInBounds_toArray, List.set_cons_zero, List.set_cons_succ])); refine linN_end ?_)
              have t4 : Row _ g4 _ _ := r4.set_other (64 * k + i) (.int .u8 (z.toNat : Int)) (show g4 ≠ g by omega)
              have t0 : Row _ w.heap.size _ _ := q0.set_other (64 * k + i) (.int .u8 (z.toNat : Int)) (show w.heap.size ≠ g by omega)
              have t1 : Row _ (w.heap.size + 1) _ _ := q1.set_other (64 * k + i) (.int .u8 (z.toNat : Int)) (show w.heap.size + 1 ≠ g by omega)
              have tB := qB.setCell (p := ⟨g, 64 * k + i, none⟩) hgB (.int .u8 (z.toNat : Int))
              clear r4 q0 q1 qB ce fz cb hxr hw1 hn1
              go_wp2
              go_roundw
              case rel => exact ⟨i + 1, by omega, by go_num, hset, t4, t0, t1, below_drew tB⟩
              case measure => simp [intOf]; omega
            · obtain rfl : i = 64 := by omega
              have hfin : OwnB wr w.heap.size 5 (.slice (some ⟨g, 0, none⟩) n ca1) (xorTo key nonce xs (64 * (k + 1))) := by rw [show 64 * (k + 1) = 64 * k + 64 by omega]; exact ho
              go_wp2
              go_roundw
              case rel => exact ⟨k + 1, by omega, by rw [show 64 * ((k + 1 : Nat) : Int) = 64 * (k : Int) + 64 by omega], hfin, q0, q1, qB⟩
              case measure => simp [intOf]; omega
        · have hmin : (n : Int) < 64 * (k : Int) + 64 := by omega
          have hcap : (n : Int) ≤ (ca1 : Int) := by omega
          go_wp2_with fail
          go_loopw [56] (fun s56 wq => ∃ i : Nat, i ≤ (n - 64 * k) ∧ s56 = .int .i64 (i : Int) ∧ OwnB wq w.heap.size 5 (.slice (some ⟨g, 0, none⟩) n ca1) (xorTo key nonce xs (64 * k + i)) ∧ Row wq g4 (bv Bk).toArray 123 ∧ Row wq w.heap.size (bv key).toArray 22 ∧ Row wq (w.heap.size + 1) (bv nonce).toArray 43 ∧ Below w.heap.size w wq) (fun i _ => ((n - 64 * k) - intOf i).toNat)
          case atStart => exact ⟨0, by omega, rfl, qo, r4, q0, q1, qB⟩
          case round =>
            clear qo r4 q0 q1 qB
            obtain ⟨i, hi, rfl, ho, r4, q0, q1, qB⟩ := hrel
            by_cases hil : i < (n - 64 * k)
            · have hxl := xorTo_length key nonce xs (64 * k + i)
              rw [HNN.out] at hxl
              obtain ⟨ce, fz⟩ := ho.cell (k := 64 * k + i) (by omega)
              rw [← List.getD_eq_getElem?_getD, xorTo_at key nonce xs (by rw [HNN.out]; omega)] at ce
              have cb := bv_cell r4 (j := i) (by rw [HBL.out]; omega)
              have hset := ho.set (k := 64 * k + i) (by omega) (xs.getD (64 * k + i) 0 ^^^ Bk.getD i 0)
              have hst := strmB_at key nonce k i (by omega)
              rw [HBK.out] at hst
              rw [← hst, xorTo_step key nonce xs (by rw [HNN.out]; omega), hst] at hset
              have hxr := u8_xor (xs.getD (64 * k + i) 0) (Bk.getD i 0)
              generalize xs.getD (64 * k + i) 0 ^^^ Bk.getD i 0 = z at *
              generalize xs.getD (64 * k + i) 0 = x at *
              clear hst hxl ho
              generalize Bk.getD i 0 = y at *
              have hw1 : IntKind.i64.wrap (64 * (k : Int) + (i : Int)) = 64 * (k : Int) + (i : Int) := IntWalk.i64_in _ (by omega)
              have hn1 : (64 * (k : Int) + (i : Int)).toNat = 64 * k + i := by omega
              have hn2 : 64 * (k : Int) + (i : Int) < (n : Int) := by omega
              have hn3 : 0 ≤ 64 * (k : Int) + (i : Int) := by omega
              have hil2 : (i : Int) < ((n - 64 * k : Nat) : Int) := by omega
              have hi64 : (i : Int) < 64 := by omega
              have b4 : g4 < wr.heap.size := r4.lt
              have bg : g < wr.heap.size := World.block_lt_of_cell? _ _ ce
              go_upto_region 12 with fail
              (refine wp_region_linN (Below wr.heap.size) (Below wr.heap.size) (wayB _) (wayB _) (fun _ _ h => h) (.free 0 (.free 1 (.free 2 (.free 3 (.free 4 (.hot 5 (.free 6 (.free 7 (.hot 8 (.free 9 (.free 10 (.op 11 [(5, 11), (8, 11)] [] [] .nil)))))))))))) rfl (by kernel_rfl) (by kernel_rfl) (fun _ _ _ _ _ h => h) ?_; (first | (apply linN_free; (simp only [List.getElem?_toArray, List.getElem?_cons_succ, List.getElem?_cons_zero]; rfl); (rfl); (intro w'; (first | (go_simp; done) | (go_simp; with_reducible rfl) | (go_simp; go_bits; with_reducible rfl) | (go_simp; go_bits; done))); try simp only [Act.put, List.setIfInBounds_toArray, List.set_cons_zero, List.set_cons_succ]) | (apply linN_freeSkip; (simp only [List.getElem?_toArray, List.getElem?_cons_succ, List.getElem?_cons_zero]; rfl); (rfl); try simp only [Act.put, List.setIfInBounds_toArray, List.set_cons_zero, List.set_cons_succ])); (first | (apply linN_free; (simp only [List.getElem?_toArray, List.getElem?_cons_succ, List.getElem?_cons_zero]; rfl); (rfl); (intro w'; (first | (go_simp; done) | (go_simp; with_reducible rfl) | (go_simp; go_bits; with_reducible rfl) | (go_simp; go_bits; done))); try simp only [Act.put, List.setIfInBounds_toArray, List.set_cons_zero, List.set_cons_succ]) | (apply linN_freeSkip; (simp only [List.getElem?_toArray, List.getElem?_cons_succ, List.getElem?_cons_zero]; rfl); (rfl); try simp only [Act.put, List.setIfInBounds_toArray, List.set_cons_zero, List.set_cons_succ])); (first | (apply linN_free; (simp only [List.getElem?_toArray, List.getElem?_cons_succ, List.getElem?_cons_zero]; rfl); (rfl); (intro w'; (first | (go_simp; done) | (go_simp; with_reducible rfl) | (go_simp; go_bits; with_reducible rfl) | (go_simp; go_bits; done))); try simp only [Act.put, List.setIfInBounds_toArray, List.set_cons_zero, List.set_cons_succ]) | (apply linN_freeSkip; (simp only [List.getElem?_toArray, List.getElem?_cons_succ, List.getElem?_cons_zero]; rfl); (rfl); try simp only [Act.put, List.setIfInBounds_toArray, List.set_cons_zero, List.set_cons_succ])); (first | (apply linN_free; (simp only [List.getElem?_toArray, List.getElem?_cons_succ, List.getElem?_cons_zero]; rfl); (rfl); (intro w'; (first | (go_simp; done) | (go_simp; with_reducible rfl) | (go_simp; go_bits; with_reducible rfl) | (go_simp; go_bits; done))); try simp only [Act.put, List.setIfInBounds_toArray, List.set_cons_zero, List.set_cons_succ]) | (apply linN_freeSkip; (simp only [List.getElem?_toArray, List.getElem?_cons_succ, List.getElem?_cons_zero]; rfl); (rfl); try simp only [Act.put, List.setIfInBounds_toArray, List.set_cons_zero, List.set_cons_succ])); (first | (apply linN_free; (simp only [List.getElem?_toArray, List.getElem?_cons_succ, List.getElem?_cons_zero]; rfl); (rfl); (intro w'; (first | (go_simp; done) | (go_simp; with_reducible rfl) | (go_simp; go_bits; with_reducible rfl) | (go_simp; go_bits; done))); try simp only [Act.put, List.setIfInBounds_toArray, List.set_cons_zero, List.set_cons_succ]) | (apply linN_freeSkip; (simp only [List.getElem?_toArray, List.getElem?_cons_succ, List.getElem?_cons_zero]; rfl); (rfl); try simp only [Act.put, List.setIfInBounds_toArray, List.set_cons_zero, List.set_cons_succ])); (first | (apply linN_hot; (simp only [List.getElem?_toArray, List.getElem?_cons_succ, List.getElem?_cons_zero]; rfl); (rfl); (intro w' hb'; (try have k_ce := keepB (by first | assumption | omega | (simp; done) | (simp; omega)) hb' ce); (try have k_cb := keepB (by first | assumption | omega | (simp; done) | (simp; omega)) hb' cb); (first | (go_simp; done) | (go_simp; with_reducible rfl) | (go_simp; go_bits; with_reducible rfl) | (go_simp; go_bits; done))); try simp only [Act.put, List.setIfInBounds_toArray, List.set_cons_zero, List.set_cons_succ]) | (apply linN_hotSkip; (simp only [List.getElem?_toArray, List.getElem?_cons_succ, List.getElem?_cons_zero]; rfl); (rfl); try simp only [Act.put, List.setIfInBounds_toArray, List.set_cons_zero, List.set_cons_succ])); (first | (apply linN_free; (simp only [List.getElem?_toArray, List.getElem?_cons_succ, List.getElem?_cons_zero]; rfl); (rfl); (intro w'; (first | (go_simp; done) | (go_simp; with_reducible rfl) | (go_simp; go_bits; with_reducible rfl) | (go_simp; go_bits; done))); try simp only [Act.put, List.setIfInBounds_toArray, List.set_cons_zero, List.set_cons_succ]) | (apply linN_freeSkip; (simp only [List.getElem?_toArray, List.getElem?_cons_succ, List.getElem?_cons_zero]; rfl); (rfl); try simp only [Act.put, List.setIfInBounds_toArray, List.set_cons_zero, List.set_cons_succ])); (first | (apply linN_free; (simp only [List.getElem?_toArray, List.getElem?_cons_succ, List.getElem?_cons_zero]; rfl); (rfl); (intro w'; (first | (go_simp; done) | (go_simp; with_reducible rfl) | (go_simp; go_bits; with_reducible rfl) | (go_simp; go_bits; done))); try simp only [Act.put, List.setIfInBounds_toArray, List.set_cons_zero, List.set_cons_succ]) | (apply linN_freeSkip; (simp only [List.getElem?_toArray, List.getElem?_cons_succ, List.getElem?_cons_zero]; rfl); (rfl); try simp only [Act.put, List.setIfInBounds_toArray, List.set_cons_zero, List.set_cons_succ])); (first | (apply linN_hot; (simp only [List.getElem?_toArray, List.getElem?_cons_succ, List.getElem?_cons_zero]; rfl); (rfl); (intro w' hb'; (try have k_ce := keepB (by first | assumption | omega | (simp; done) | (simp; omega)) hb' ce); (try have k_cb := keepB (by first | assumption | omega | (simp; done) | (simp; omega)) hb' cb); (first | (go_simp; done) | (go_simp; with_reducible rfl) | (go_simp; go_bits; with_reducible rfl) | (go_simp; go_bits; done))); try simp only [Act.put, List.setIfInBounds_toArray, List.set_cons_zero, List.set_cons_succ]) | (apply linN_hotSkip; (simp only [List.getElem?_toArray, List.getElem?_cons_succ, List.getElem?_cons_zero]; rfl); (rfl); try simp only [Act.put, List.setIfInBounds_toArray, List.set_cons_zero, List.set_cons_succ])); (first | (apply linN_free; (simp only [List.getElem?_toArray, List.getElem?_cons_succ, List.getElem?_cons_zero]; rfl); (rfl); (intro w'; (first | (go_simp; done) | (go_simp; with_reducible rfl) | (go_simp; go_bits; with_reducible rfl) | (go_simp; go_bits; done))); try simp only [Act.put, List.setIfInBounds_toArray, List.set_cons_zero, List.set_cons_succ]) | (apply linN_freeSkip; (simp only [List.getElem?_toArray, List.getElem?_cons_succ, List.getElem?_cons_zero]; rfl); (rfl); try simp only [Act.put, List.setIfInBounds_toArray, List.set_cons_zero, List.set_cons_succ])); (first | (apply linN_free; (simp only [List.getElem?_toArray, List.getElem?_cons_succ, List.getElem?_cons_zero]; rfl); (rfl); (intro w'; (first | (go_simp; done) | (go_simp; with_reducible rfl) | (go_simp; go_bits; with_reducible rfl) | (go_simp; go_bits; done))); try simp only [Act.put, List.setIfInBounds_toArray, List.set_cons_zero, List.set_cons_succ]) | (apply linN_freeSkip; (simp only [List.getElem?_toArray, List.getElem?_cons_succ, List.getElem?_cons_zero]; rfl); (rfl); try simp only [Act.put, List.setIfInBounds_toArray, List.set_cons_zero, List.set_cons_succ])); (first | (apply linN_pass (wayB _) (wayB _); (simp only [List.getElem?_toArray, List.getElem?_cons_succ, List.getElem?_cons_zero]; rfl); (rfl); try simp only [Act.put, List.setIfInBounds_toArray, List.set_cons_zero, List.set_cons_succ]) | (apply linN_op; (simp only [List.getElem?_toArray, List.getElem?_cons_succ, List.getElem?_cons_zero]; rfl); (rfl); intro K hK; (first | (go_simp; (first | skip))); refine hK _ _ ?_ ?_; (exact trivial); clear hK; try simp only [Act.put, List.setIfInBounds_toArray, List.set_cons_zero, List.set_cons_succ])); refine linN_end ?_)
              have t4 : Row _ g4 _ _ := r4.set_other (64 * k + i) (.int .u8 (z.toNat : Int)) (show g4 ≠ g by omega)
              have t0 : Row _ w.heap.size _ _ := q0.set_other (64 * k + i) (.int .u8 (z.toNat : Int)) (show w.heap.size ≠ g by omega)
              have t1 : Row _ (w.heap.size + 1) _ _ := q1.set_other (64 * k + i) (.int .u8 (z.toNat : Int)) (show w.heap.size + 1 ≠ g by omega)
              have tB := qB.setCell (p := ⟨g, 64 * k + i, none⟩) hgB (.int .u8 (z.toNat : Int))
              clear r4 q0 q1 qB ce fz cb hxr hw1 hn1
              go_wp2
              go_roundw
              case rel => exact ⟨i + 1, by omega, by go_num, hset, t4, t0, t1, below_drew tB⟩
              case measure => simp [intOf]; omega
            · obtain rfl : i = (n - 64 * k) := by omega
              have hfin : OwnB wr w.heap.size 5 (.slice (some ⟨g, 0, none⟩) n ca1) (xorTo key nonce xs (64 * (k + 1))) := by rw [xorTo_end key nonce xs (m := 64 * (k + 1)) (by rw [HNN.out]; omega)]; rw [xorTo_end key nonce xs (m := 64 * k + (n - 64 * k)) (by rw [HNN.out]; omega)] at ho; exact ho
              go_wp2
              go_roundw
              case rel => exact ⟨k + 1, by omega, by rw [show 64 * ((k + 1 : Nat) : Int) = 64 * (k : Int) + 64 by omega], hfin, q0, q1, qB⟩
              case measure => simp [intOf]; omega
      · have hlt' : ¬ 64 * (k : Int) < (n : Int) := by omega
        rw [xorTo_end key nonce xs (m := 64 * k) (by rw [HNN.out]; omega)] at ho
        go_wp2
        go_ret2
        exact ⟨_, rfl, ho, hB⟩
end Go.Proofs.Ytmdmhjcdaejlkaa

/- Bytes, exclusive or with the stream: the reference's walk. -/
set_option linter.unusedVariables false
set_option linter.unusedSimpArgs false
namespace Go.Proofs.Ytmdmhjcdaejlkaa
open Go.RowKit

set_option maxHeartbeats 4000000 in
set_option maxRecDepth 100000 in
theorem c_rXor (key nonce : List UInt8) (hk : key.length = 32) (hn : nonce.length = 12) (A : Option Addr) (c : Nat) (xs : List UInt8) (w : World) (hr : RdB w A xs.length xs) (hm : xs.length ≤ 1000000) :
    Calls Try.prog 65 #[.agg (bv key).toArray, .agg (bv nonce).toArray, .int .u32 0, .slice A xs.length c] w fun e w' => ∃ v, e = .returned (.tuple #[v, .bool true]) ∧ OwnB w' w.heap.size 5 v (xorL key nonce xs) ∧ Below w.heap.size w w' := by
  have HK := Lib.hid hk
  have HN := Lib.hid hn
  clear hk hn
  obtain ⟨h0, h1, hz, hB⟩ := alloc2 w (bv key).toArray 22 (bv nonce).toArray 43
  have hr1 := hr.below hB (Nat.le_refl _)
  clear hr
  generalize hnn : xs.length = n at *
  have HNN := Lib.hid hnn
  clear hnn
  go_enter Try.func65, Try.ntmps65
  generalize hW1 : (w.alloc (.cells (bv key).toArray 22)).alloc (.cells (bv nonce).toArray 43) = W1 at *
  have HW1 := Lib.hid hW1
  clear hW1
  have hq1 : ((n : Int) + 63) / 64 ≤ 4294967296 := by omega
  go_upto_region 3 with fail
  rw [HW1.out]
  have hz' : w.heap.size + 1 < W1.heap.size := by omega
  have hHO := own_empty W1 5
  replace h0 := h0.alloc (.cells #[] 5)
  replace h1 := h1.alloc (.cells #[] 5)
  replace hr1 := hr1.below (below_alloc (Below.refl W1.heap.size W1) (.cells #[] 5)) (Nat.le_refl _)
  have hB0 := hB.trans (belowB_alloc (B := w.heap.size) (w := W1) (by omega) (.cells #[] 5))
  replace hHO := OwnB.mono hHO (B' := w.heap.size) (by omega)
  have hz2 : (W1.alloc (.cells #[] 5)).heap.size = W1.heap.size + 1 := by simp
  have hm2 : ([] : List UInt8).length + n ≤ 140737488355328 := by simp; omega
  clear hz HW1 hB hq1
  go_upto_region 4 with (at_builtin; refine wpl_cat (w0 := w) rfl _ _ 24 rfl w.heap.size 5 Try.underlying24 info_u8 hHO rfl hr1 rfl hB0 (by omega) hm2 ?_; intro v1 w1 ho1 hb1 hg1 hv1)
  have k0 : Row w1 w.heap.size (bv key).toArray 22 := (hg1.block _ (by omega) (by simp [Value.ownBlock]; omega)).trans h0
  have k1 : Row w1 (w.heap.size + 1) (bv nonce).toArray 43 := (hg1.block _ (by omega) (by simp [Value.ownBlock]; omega)).trans h1
  rw [List.nil_append] at ho1
  obtain ⟨A1, ca1, rfl, lc1, -, -⟩ := ho1.form
  rw [HNN.out] at ho1 lc1 ⊢
  clear h0 h1 hB0 hHO hr1 hg1 hm2
  have hgb : ∀ g, A1 = some ⟨g, 0, none⟩ → w.heap.size + 1 < g := by
    intro g e
    subst e
    rcases hv1 with h | h
    · simp [Value.ownBlock] at h; omega
    · simp [Value.ownBlock] at h; omega
  have hsz1 := hb1.size
  clear hv1 hz' hz2
  rw [← xorTo_zero key nonce xs] at ho1
  go_wp2_with fail
  go_loopw [11] (fun s12 wr => ∃ k : Nat, 64 * k < n + 64 ∧ s12 = .int .i64 (64 * (k : Int)) ∧ OwnB wr w.heap.size 5 (.slice A1 n ca1) (xorTo key nonce xs (64 * k)) ∧ Row wr w.heap.size (bv key).toArray 22 ∧ Row wr (w.heap.size + 1) (bv nonce).toArray 43 ∧ Below w.heap.size w wr) (fun i _ => (n + 64 - intOf i).toNat)
  case atStart => exact ⟨0, by omega, rfl, ho1, k0, k1, hb1⟩
  case round =>
    clear ho1 k0 k1 hb1 hsz1
    obtain ⟨k, hk, rfl, ho, h0, h1, hB⟩ := hrel
    have hxl := xorTo_length key nonce xs (64 * k)
    rw [HNN.out] at hxl
    have HXL := Lib.hid hxl
    clear hxl
    by_cases hlt : 64 * k < n
    · have hlt' : 64 * (k : Int) < (n : Int) := by omega
      obtain ⟨g, rfl, hgB, -⟩ := ho.at_ (by rw [HXL.out]; omega)
      have hgg := hgb g rfl
      have hdiv : 64 * (k : Int) / 64 = (k : Int) := by omega
      have hkb : (k : Int) < 20000 := by omega
      have hbl := blockL_length key nonce k
      have HBL := Lib.hid hbl
      have hba := bv_all (blockL key nonce k)
      have HBK : IsBk key nonce k (blockL key nonce k) := ⟨rfl⟩
      have HCB : ∀ w, Calls Try.prog 89 #[.agg (bv key).toArray, .agg (bv nonce).toArray, .int .u32 (k : Int)] w fun e w' => e = .returned (.agg (bv (blockL key nonce k)).toArray) ∧ Below w.heap.size w w' := fun w => c_rBlock key nonce k HK.out HN.out (by omega) w
      have HCC := Lib.hid HCB
      clear hbl HCB
      generalize blockL key nonce k = Bk at *
      go_upto_region 8 with (first | (apply wpl_loadS (ty := 22); rfl; rfl; rfl; kernel_rfl; exact h0; (simp only [List.size_toArray, bv_length, HK.out]; kernel_rfl); simp only [Act.put, List.setIfInBounds_toArray, List.set_cons_zero, List.set_cons_succ]) | (apply wpl_loadS (ty := 43); rfl; rfl; rfl; kernel_rfl; exact h1; (simp only [List.size_toArray, bv_length, HN.out]; kernel_rfl); simp only [Act.put, List.setIfInBounds_toArray, List.set_cons_zero, List.set_cons_succ]) | (go_at_call 89; refine (HCC.out _).mono ?_; rintro e w3 ⟨rfl, hb3⟩) | (apply wpl_storeN; rfl; rfl; rfl; (first | rfl | simp); rfl; (simp only [List.size_toArray, bv_length, HBL.out]; kernel_rfl); (simp only [List.size_toArray, bv_length, HBL.out]; rfl); exact hba; simp only [Act.put]))
      have hb4 : Below wr.heap.size wr (w3.alloc (.cells (bv Bk).toArray 123)) := below_alloc hb3 _
      have r4 := Row.new w3 (bv Bk).toArray 123
      have q0 := h0.below hb4 h0.lt
      have q1 := h1.below hb4 h1.lt
      have qo := ho.below hb4
      have hzw := hB.size
      have qB := hB.trans (hb4.mono hzw)
      have hg3 : g < wr.heap.size := World.block_lt_of_cell? _ _ (ho.cell (k := 0) (by rw [HXL.out]; omega)).1
      have hz3 := hb3.size
      clear h0 h1 ho hB hb3 hb4 hba
      generalize w3.alloc (.cells (bv Bk).toArray 123) = w4 at *
      generalize w3.heap.size = g4 at *
      go_wp2_with fail
      go_loopw [13] (fun s56 wq => ∃ i : Nat, i ≤ 64 ∧ 64 * k + i ≤ n ∧ s56 = .int .i64 (i : Int) ∧ OwnB wq w.heap.size 5 (.slice (some ⟨g, 0, none⟩) n ca1) (xorTo key nonce xs (64 * k + i)) ∧ Row wq g4 (bv Bk).toArray 123 ∧ Row wq w.heap.size (bv key).toArray 22 ∧ Row wq (w.heap.size + 1) (bv nonce).toArray 43 ∧ Below w.heap.size w wq) (fun i _ => (64 - intOf i).toNat)
      case atStart => exact ⟨0, by omega, by omega, rfl, qo, r4, q0, q1, qB⟩
      case round =>
        clear qo r4 q0 q1 qB
        obtain ⟨i, hi, hin, rfl, ho, r4, q0, q1, qB⟩ := hrel
        by_cases hil : i < 64 ∧ 64 * k + i < n
        · obtain ⟨hil1, hil2⟩ := hil
          have hxl := xorTo_length key nonce xs (64 * k + i)
          rw [HNN.out] at hxl
          obtain ⟨ce, fz⟩ := ho.cell (k := 64 * k + i) (by omega)
          rw [← List.getD_eq_getElem?_getD, xorTo_at key nonce xs (by rw [HNN.out]; omega)] at ce
          have cb := bv_cell r4 (j := i) (by rw [HBL.out]; omega)
          have hset := ho.set (k := 64 * k + i) (by omega) (xs.getD (64 * k + i) 0 ^^^ Bk.getD i 0)
          have hst := strmB_at key nonce k i (by omega)
          rw [HBK.out] at hst
          rw [← hst, xorTo_step key nonce xs (by rw [HNN.out]; omega), hst] at hset
          have hxr := u8_xor (xs.getD (64 * k + i) 0) (Bk.getD i 0)
          generalize xs.getD (64 * k + i) 0 ^^^ Bk.getD i 0 = z at *
          generalize xs.getD (64 * k + i) 0 = x at *
          clear hst hxl ho
          generalize Bk.getD i 0 = y at *
          have hw1 : IntKind.i64.wrap (64 * (k : Int) + (i : Int)) = 64 * (k : Int) + (i : Int) := IntWalk.i64_in _ (by omega)
          have hn1 : (64 * (k : Int) + (i : Int)).toNat = 64 * k + i := by omega
          have hn2 : 64 * (k : Int) + (i : Int) < (n : Int) := by omega
          have hn3 : 0 ≤ 64 * (k : Int) + (i : Int) := by omega
          have hi64 : (i : Int) < 64 := by omega
          have b4 : g4 < wr.heap.size := r4.lt
          have bg : g < wr.heap.size := World.block_lt_of_cell? _ _ ce
          go_upto_region 11 with fail
          (refine wp_region_linN (Below wr.heap.size) (Below wr.heap.size) (wayB _) (wayB _) (fun _ _ h => h) (.free 0 (.free 1 (.free 2 (.free 3 (.free 4 (.free 5 (.free 6 (.free 7 (.free 8 (.hot 9 (.free 10 (.free 11 (.hot 12 (.free 13 (.free 14 (.op 15 [(9, 15), (12, 15)] [] [] .nil)))))))))))))))) rfl (by kernel_rfl) (by kernel_rfl) (fun _ _ _ _ _ h => h) ?_; (first | (apply linN_free; (simp only [List.getElem?_toArray, List.getElem?_cons_succ, List.getElem?_cons_zero]; rfl); (rfl); (intro w'; (first | (go_simp; done) | (go_simp; with_reducible rfl) | (go_simp; go_bits; with_reducible rfl) | (go_simp; go_bits; done))); try simp only [Act.put, List.setIfInBounds_toArray, List.set_cons_zero, List.set_cons_succ]) | (apply linN_freeSkip; (simp only [List.getElem?_toArray, List.getElem?_cons_succ, List.getElem?_cons_zero]; rfl); (rfl); try simp only [Act.put, List.setIfInBounds_toArray, List.set_cons_zero, List.set_cons_succ])); (first | (apply linN_free; (simp only [List.getElem?_toArray, List.getElem?_cons_succ, List.getElem?_cons_zero]; rfl); (rfl); (intro w'; (first | (go_simp; done) | (go_simp; with_reducible rfl) | (go_simp; go_bits; with_reducible rfl) | (go_simp; go_bits; done))); try simp only [Act.put, List.setIfInBounds_toArray, List.set_cons_zero, List.set_cons_succ]) | (apply linN_freeSkip; (simp only [List.getElem?_toArray, List.getElem?_cons_succ, List.getElem?_cons_zero]; rfl); (rfl); try simp only [Act.put, List.setIfInBounds_toArray, List.set_cons_zero, List.set_cons_succ])); (first | (apply linN_free; (simp only [List.getElem?_toArray, List.getElem?_cons_succ, List.getElem?_cons_zero]; rfl); (rfl); (intro w'; (first | (go_simp; done) | (go_simp; with_reducible rfl) | (go_simp; go_bits; with_reducible rfl) | (go_simp; go_bits; done))); try simp only [Act.put, List.setIfInBounds_toArray, List.set_cons_zero, List.set_cons_succ]) | (apply linN_freeSkip; (simp only [List.getElem?_toArray, List.getElem?_cons_succ, List.getElem?_cons_zero]; rfl); (rfl); try simp only [Act.put, List.setIfInBounds_toArray, List.set_cons_zero, List.set_cons_succ])); (first | (apply linN_free; (simp only [List.getElem?_toArray, List.getElem?_cons_succ, List.getElem?_cons_zero]; rfl); (rfl); (intro w'; (first | (go_simp; done) | (go_simp; with_reducible rfl) | (go_simp; go_bits; with_reducible rfl) | (go_simp; go_bits; done))); try simp only [Act.put, List.setIfInBounds_toArray, List.set_cons_zero, List.set_cons_succ]) | (apply linN_freeSkip; (simp only [List.getElem?_toArray, List.getElem?_cons_succ, List.getElem?_cons_zero]; rfl); (rfl); try simp only [Act.put, List.setIfInBounds_toArray, List.set_cons_zero, List.set_cons_succ])); (first | (apply linN_free; (simp only [List.getElem?_toArray, List.getElem?_cons_succ, List.getElem?_cons_zero]; rfl); (rfl); (intro w'; (first | (go_simp; done) | (go_simp; with_reducible rfl) | (go_simp; go_bits; with_reducible rfl) | (go_simp; go_bits; done))); try simp only [Act.put, List.setIfInBounds_toArray, List.set_cons_zero, List.set_cons_succ]) | (apply linN_freeSkip; (simp only [List.getElem?_toArray, List.getElem?_cons_succ, List.getElem?_cons_zero]; rfl); (rfl); try simp only [Act.put, List.setIfInBounds_toArray, List.set_cons_zero, List.set_cons_succ])); (first | (apply linN_free; (simp only [List.getElem?_toArray, List.getElem?_cons_succ, List.getElem?_cons_zero]; rfl); (rfl); (intro w'; (first | (go_simp; done) | (go_simp; with_reducible rfl) | (go_simp; go_bits; with_reducible rfl) | (go_simp; go_bits; done))); try simp only [Act.put, List.setIfInBounds_toArray, List.set_cons_zero, List.set_cons_succ]) | (apply linN_freeSkip; (simp only [List.getElem?_toArray, List.getElem?_cons_succ, List.getElem?_cons_zero]; rfl); (rfl); try simp only [Act.put, List.setIfInBounds_toArray, List.set_cons_zero, List.set_cons_succ])); (first | (apply linN_free; (simp only [List.getElem?_toArray, List.getElem?_cons_succ, List.getElem?_cons_zero]; rfl); (rfl); (intro w'; (first | (go_simp; done) | (go_simp; with_reducible rfl) | (go_simp; go_bits; with_reducible rfl) | (go_simp; go_bits; done))); try simp only [Act.put, List.setIfInBounds_toArray, List.set_cons_zero, List.set_cons_succ]) | (apply linN_freeSkip; (simp only [List.getElem?_toArray, List.getElem?_cons_succ, List.getElem?_cons_zero]; rfl); (rfl); try simp only [Act.put, List.setIfInBounds_toArray, List.set_cons_zero, List.set_cons_succ])); (first | (apply linN_free; (simp only [List.getElem?_toArray, List.getElem?_cons_succ, List.getElem?_cons_zero]; rfl); (rfl); (intro w'; (first | (go_simp; done) | (go_simp; with_reducible rfl) | (go_simp; go_bits; with_reducible rfl) | (go_simp; go_bits; done))); try simp only [Act.put, List.setIfInBounds_toArray, List.set_cons_zero, List.set_cons_succ]) | (apply linN_freeSkip; (simp only [List.getElem?_toArray, List.getElem?_cons_succ, List.getElem?_cons_zero]; rfl); (rfl); try simp only [Act.put, List.setIfInBounds_toArray, List.set_cons_zero, List.set_cons_succ])); (first | (apply linN_free; (simp only [List.getElem?_toArray, List.getElem?_cons_succ, List.getElem?_cons_zero]; rfl); (rfl); (intro w'; (first | (go_simp; done) | (go_simp; with_reducible rfl) | (go_simp; go_bits; with_reducible rfl) | (go_simp; go_bits; done))); try simp only [Act.put, List.setIfInBounds_toArray, List.set_cons_zero, List.set_cons_succ]) | (apply linN_freeSkip; (simp only [List.getElem?_toArray, List.getElem?_cons_succ, List.getElem?_cons_zero]; rfl); (rfl); try simp only [Act.put, List.setIfInBounds_toArray, List.set_cons_zero, List.set_cons_succ])); (first | (apply linN_hot; (simp only [List.getElem?_toArray, List.getElem?_cons_succ, List.getElem?_cons_zero]; rfl); (rfl); (intro w' hb'; (try have k_ce := keepB (by first | assumption | omega | (simp; done) | (simp; omega)) hb' ce); (try have k_cb := keepB (by first | assumption | omega | (simp; done) | (simp; omega)) hb' cb); (first | (go_simp; done) | (go_simp; with_reducible rfl) | (go_simp; go_bits; with_reducible rfl) | (go_simp; go_bits; done))); try simp only [Act.put, List.setIfInBounds_toArray, List.set_cons_zero, List.set_cons_succ]) | (apply linN_hotSkip; (simp only [List.getElem?_toArray, List.getElem?_cons_succ, List.getElem?_cons_zero]; rfl); (rfl); try simp only [Act.put, List.setIfInBounds_toArray, List.set_cons_zero, List.set_cons_succ])); (first | (apply linN_free; (simp only [List.getElem?_toArray, List.getElem?_cons_succ, List.getElem?_cons_zero]; rfl); (rfl); (intro w'; (first | (go_simp; done) | (go_simp; with_reducible rfl) | (go_simp; go_bits; with_reducible rfl) | (go_simp; go_bits; done))); try simp only [Act.put, List.setIfInBounds_toArray, List.set_cons_zero, List.set_cons_succ]) | (apply linN_freeSkip; (simp only [List.getElem?_toArray, List.getElem?_cons_succ, List.getElem?_cons_zero]; rfl); (rfl); try simp only [Act.put, List.setIfInBounds_toArray, List.set_cons_zero, List.set_cons_succ])); (first | (apply linN_free; (simp only [List.getElem?_toArray, List.getElem?_cons_succ, List.getElem?_cons_zero]; rfl); (rfl); (intro w'; (first | (go_simp; done) | (go_simp; with_reducible rfl) | (go_simp; go_bits; with_reducible rfl) | (go_simp; go_bits; done))); try simp only [Act.put, List.setIfInBounds_toArray, List.set_cons_zero, List.set_cons_succ]) | (apply linN_freeSkip; (simp only [List.getElem?_toArray, List.getElem?_cons_succ, List.getElem?_cons_zero]; rfl); (rfl); try simp only [Act.put, List.setIfInBounds_toArray, List.set_cons_zero, List.set_cons_succ])); (first | (apply linN_hot; (simp only [List.getElem?_toArray, List.getElem?_cons_succ, List.getElem?_cons_zero]; rfl); (rfl); (intro w' hb'; (try have k_ce := keepB (by first | assumption | omega | (simp; done) | (simp; omega)) hb' ce); (try have k_cb := keepB (by first | assumption | omega | (simp; done) | (simp; omega)) hb' cb); (first | (go_simp; done) | (go_simp; with_reducible rfl) | (go_simp; go_bits; with_reducible rfl) | (go_simp; go_bits; done))); try simp only [Act.put, List.setIfInBounds_toArray, List.set_cons_zero, List.set_cons_succ]) | (apply linN_hotSkip; (simp only [List.getElem?_toArray, List.getElem?_cons_succ, List.getElem?_cons_zero]; rfl); (rfl); try simp only [Act.put, List.setIfInBounds_toArray, List.set_cons_zero, List.set_cons_succ])); (first | (apply linN_free; (simp only [List.getElem?_toArray, List.getElem?_cons_succ, List.getElem?_cons_zero]; rfl); (rfl); (intro w'; (first | (go_simp; done) | (go_simp; with_reducible rfl) | (go_simp; go_bits; with_reducible rfl) | (go_simp; go_bits; done))); try simp only [Act.put, List.setIfInBounds_toArray, List.set_cons_zero, List.set_cons_succ]) | (apply linN_freeSkip; (simp only [List.getElem?_toArray, List.getElem?_cons_succ, List.getElem?_cons_zero]; rfl); (rfl); try simp only [Act.put, List.setIfInBounds_toArray, List.set_cons_zero, List.set_cons_succ])); (first | (apply linN_free; (simp only [List.getElem?_toArray, List.getElem?_cons_succ, List.getElem?_cons_zero]; rfl); (rfl); (intro w'; (first | (go_simp; done) | (go_simp; with_reducible rfl) | (go_simp; go_bits; with_reducible rfl) | (go_simp; go_bits; done))); try simp only [Act.put, List.setIfInBounds_toArray, List.set_cons_zero, List.set_cons_succ]) | (apply linN_freeSkip; (simp only [List.getElem?_toArray, List.getElem?_cons_succ, List.getElem?_cons_zero]; rfl); (rfl); try simp only [Act.put, List.setIfInBounds_toArray, List.set_cons_zero, List.set_cons_succ])); (first | (apply linN_pass (wayB _) (wayB _); (simp only [List.getElem?_toArray, List.getElem?_cons_succ, List.getElem?_cons_zero]; rfl); (rfl); try simp only [Act.put, List.setIfInBounds_toArray, List.set_cons_zero, List.set_cons_succ]) | (apply linN_op; (simp only [List.getElem?_toArray, List.getElem?_cons_succ, List.getElem?_cons_zero]; rfl); (rfl); intro K hK; (first | (go_simp; (first | skip))); refine hK _ _ ?_ ?_; (exact trivial); clear hK; try simp only [Act.put, List.setIfInBounds_toArray, List.set_cons_zero, List.set_cons_succ])); refine linN_end ?_)
          have t4 : Row _ g4 _ _ := r4.set_other (64 * k + i) (.int .u8 (z.toNat : Int)) (show g4 ≠ g by omega)
          have t0 : Row _ w.heap.size _ _ := q0.set_other (64 * k + i) (.int .u8 (z.toNat : Int)) (show w.heap.size ≠ g by omega)
          have t1 : Row _ (w.heap.size + 1) _ _ := q1.set_other (64 * k + i) (.int .u8 (z.toNat : Int)) (show w.heap.size + 1 ≠ g by omega)
          have tB := qB.setCell (p := ⟨g, 64 * k + i, none⟩) hgB (.int .u8 (z.toNat : Int))
          clear r4 q0 q1 qB ce fz cb hxr hw1 hn1
          go_wp2
          go_roundw
          case rel => exact ⟨i + 1, by omega, by omega, by go_num, hset, t4, t0, t1, below_drew tB⟩
          case measure => simp [intOf]; omega
        · have hfin : OwnB wr w.heap.size 5 (.slice (some ⟨g, 0, none⟩) n ca1) (xorTo key nonce xs (64 * (k + 1))) := by
            by_cases h6 : i = 64
            · subst h6
              rw [show 64 * (k + 1) = 64 * k + 64 by omega]
              exact ho
            · rw [xorTo_end key nonce xs (m := 64 * (k + 1)) (by rw [HNN.out]; omega)]
              rw [xorTo_end key nonce xs (m := 64 * k + i) (by rw [HNN.out]; omega)] at ho
              exact ho
          clear ho
          have hor : i = 64 ∨ (i < 64 ∧ ¬ 64 * k + i < n) := by omega
          rcases hor with rfl | ⟨hc1, hc2⟩
          · simp only [show ((64 : Nat) : Int) = 64 from rfl]
            go_wp2
            go_roundw
            case rel => exact ⟨k + 1, by omega, by rw [show 64 * ((k + 1 : Nat) : Int) = 64 * (k : Int) + 64 by omega], hfin, q0, q1, qB⟩
            case measure => simp [intOf]; omega
          · have hc3 : (i : Int) < 64 := by omega
            have hc4 : ¬ 64 * (k : Int) + (i : Int) < (n : Int) := by omega
            go_wp2
            go_roundw
            case rel => exact ⟨k + 1, by omega, by rw [show 64 * ((k + 1 : Nat) : Int) = 64 * (k : Int) + 64 by omega], hfin, q0, q1, qB⟩
            case measure => simp [intOf]; omega
    · have hlt' : ¬ 64 * (k : Int) < (n : Int) := by omega
      rw [xorTo_end key nonce xs (m := 64 * k) (by rw [HNN.out]; omega)] at ho
      go_wp2
      go_ret2
      exact ⟨_, rfl, ho, hB⟩
end Go.Proofs.Ytmdmhjcdaejlkaa
