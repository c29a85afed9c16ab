/- The walks of a quarter round, the program's and the reference's. -/
import Derived.Test.YtlbpmboknmbcgaaProg
import Derived.Test.YtlbpmboknmbcgaaSealP
import Derived.Test.YtlbpmboknmbcgaaLe
set_option linter.unusedVariables false
set_option linter.unusedSimpArgs false
namespace Go.Proofs.Ytlbpmboknmbcgaa
open Go.RowKit

theorem c_rotl (x : Int) (k : Int) (n : Nat) (hn : (n : Int) = k) (hk : k = 16 ∨ k = 12 ∨ k = 8 ∨ k = 7) (w : World) :
    Calls Try.prog 92 #[.int .u32 x, .int .i64 k] w fun e w' => e = .returned (.int .u32 (rotW x n)) ∧ w = w' := by
  unfold rotW
  have h1 : bits .and .u64 16 31 = 16 := by decide
  have h2 : bits .and .u64 12 31 = 12 := by decide
  have h3 : bits .and .u64 8 31 = 8 := by decide
  have h4 : bits .and .u64 7 31 = 7 := by decide
  rcases hk with rfl | rfl | rfl | rfl
  · obtain rfl : n = 16 := by omega
    clear hn
    go_enter Try.func92, Try.ntmps92
    go_wp2
    go_ret
    exact ⟨rfl, rfl⟩
  · obtain rfl : n = 12 := by omega
    clear hn
    go_enter Try.func92, Try.ntmps92
    go_wp2
    go_ret
    exact ⟨rfl, rfl⟩
  · obtain rfl : n = 8 := by omega
    clear hn
    go_enter Try.func92, Try.ntmps92
    go_wp2
    go_ret
    exact ⟨rfl, rfl⟩
  · obtain rfl : n = 7 := by omega
    clear hn
    go_enter Try.func92, Try.ntmps92
    go_wp2
    go_ret
    exact ⟨rfl, rfl⟩
theorem c_rLeft (x : Int) (k : Int) (n : Nat) (hn : (n : Int) = k) (hk : k = 16 ∨ k = 12 ∨ k = 8 ∨ k = 7) (w : World) :
    Calls Try.prog 91 #[.int .u32 x, .int .i64 k] w fun e w' => e = .returned (.int .u32 (rotW x n)) ∧ w = w' := by
  unfold rotW
  rcases hk with rfl | rfl | rfl | rfl
  · obtain rfl : n = 16 := by omega
    clear hn
    go_enter Try.func91, Try.ntmps91
    go_wp2
    go_ret
    exact ⟨rfl, rfl⟩
  · obtain rfl : n = 12 := by omega
    clear hn
    go_enter Try.func91, Try.ntmps91
    go_wp2
    go_ret
    exact ⟨rfl, rfl⟩
  · obtain rfl : n = 8 := by omega
    clear hn
    go_enter Try.func91, Try.ntmps91
    go_wp2
    go_ret
    exact ⟨rfl, rfl⟩
  · obtain rfl : n = 7 := by omega
    clear hn
    go_enter Try.func91, Try.ntmps91
    go_wp2
    go_ret
    exact ⟨rfl, rfl⟩
theorem addW_eq (a b : Int) : (a + b) % 4294967296 = addW a b := rfl
theorem xorW_eq (a b : Int) : bits .xor .u32 a b = xorW a b := rfl
/-- what a quarter round answers -/
def qtup (a b c d : Int) : Value := .tuple #[.int .u32 (qA2 a b c d), .int .u32 (qB2 a b c d), .int .u32 (qC2 a b c d), .int .u32 (qD2 a b c d)]
set_option maxHeartbeats 1000000 in
set_option maxRecDepth 100000 in
theorem c_round (a b c d : Int) (w : World) :
    Calls Try.prog 90 #[.int .u32 a, .int .u32 b, .int .u32 c, .int .u32 d] w fun e w' => e = .returned (qtup a b c d) ∧ w = w' := by
  have e1 : (a + b) % 4294967296 = qA1 a b c d := rfl
  have e2 : rotW (bits .xor .u32 d (qA1 a b c d)) 16 = qD1 a b c d := rfl
  have e3 : (c + qD1 a b c d) % 4294967296 = qC1 a b c d := rfl
  have e4 : rotW (bits .xor .u32 b (qC1 a b c d)) 12 = qB1 a b c d := rfl
  have e5 : (qA1 a b c d + qB1 a b c d) % 4294967296 = qA2 a b c d := rfl
  have e6 : rotW (bits .xor .u32 (qD1 a b c d) (qA2 a b c d)) 8 = qD2 a b c d := rfl
  have e7 : (qC1 a b c d + qD2 a b c d) % 4294967296 = qC2 a b c d := rfl
  have e8 : rotW (bits .xor .u32 (qB1 a b c d) (qC2 a b c d)) 7 = qB2 a b c d := rfl
  unfold qtup
  generalize qA1 a b c d = A1 at *
  generalize qD1 a b c d = D1 at *
  generalize qC1 a b c d = C1 at *
  generalize qB1 a b c d = B1 at *
  generalize qA2 a b c d = A2 at *
  generalize qD2 a b c d = D2 at *
  generalize qC2 a b c d = C2 at *
  generalize qB2 a b c d = B2 at *
  go_enter Try.func90, Try.ntmps90
  go_wp2_with fail
  refine (c_rotl _ 16 16 rfl (by decide) _).mono ?_
  rintro e w' ⟨rfl, rfl⟩
  rw [e2]
  go_wp2_with fail
  refine (c_rotl _ 12 12 rfl (by decide) _).mono ?_
  rintro e w' ⟨rfl, rfl⟩
  rw [e4]
  go_wp2_with fail
  refine (c_rotl _ 8 8 rfl (by decide) _).mono ?_
  rintro e w' ⟨rfl, rfl⟩
  rw [e6]
  go_wp2_with fail
  refine (c_rotl _ 7 7 rfl (by decide) _).mono ?_
  rintro e w' ⟨rfl, rfl⟩
  rw [e8]
  go_wp2
  exact ⟨rfl, _, by simp [results, Try.results90], rfl, rfl⟩
set_option maxHeartbeats 1000000 in
set_option maxRecDepth 100000 in
theorem c_rRound (a b c d : Int) (w : World) :
    Calls Try.prog 88 #[.int .u32 a, .int .u32 b, .int .u32 c, .int .u32 d] w fun e w' => e = .returned (qtup a b c d) ∧ w = w' := by
  have e1 : (a + b) % 4294967296 = qA1 a b c d := rfl
  have e2 : rotW (bits .xor .u32 d (qA1 a b c d)) 16 = qD1 a b c d := rfl
  have e3 : (c + qD1 a b c d) % 4294967296 = qC1 a b c d := rfl
  have e4 : rotW (bits .xor .u32 b (qC1 a b c d)) 12 = qB1 a b c d := rfl
  have e5 : (qA1 a b c d + qB1 a b c d) % 4294967296 = qA2 a b c d := rfl
  have e6 : rotW (bits .xor .u32 (qD1 a b c d) (qA2 a b c d)) 8 = qD2 a b c d := rfl
  have e7 : (qC1 a b c d + qD2 a b c d) % 4294967296 = qC2 a b c d := rfl
  have e8 : rotW (bits .xor .u32 (qB1 a b c d) (qC2 a b c d)) 7 = qB2 a b c d := rfl
  unfold qtup
  generalize qA1 a b c d = A1 at *
  generalize qD1 a b c d = D1 at *
  generalize qC1 a b c d = C1 at *
  generalize qB1 a b c d = B1 at *
  generalize qA2 a b c d = A2 at *
  generalize qD2 a b c d = D2 at *
  generalize qC2 a b c d = C2 at *
  generalize qB2 a b c d = B2 at *
  go_enter Try.func88, Try.ntmps88
  go_wp2_with fail
  refine (c_rLeft _ 16 16 rfl (by decide) _).mono ?_
  rintro e w' ⟨rfl, rfl⟩
  rw [e2]
  go_wp2_with fail
  refine (c_rLeft _ 12 12 rfl (by decide) _).mono ?_
  rintro e w' ⟨rfl, rfl⟩
  rw [e4]
  go_wp2_with fail
  refine (c_rLeft _ 8 8 rfl (by decide) _).mono ?_
  rintro e w' ⟨rfl, rfl⟩
  rw [e6]
  go_wp2_with fail
  refine (c_rLeft _ 7 7 rfl (by decide) _).mono ?_
  rintro e w' ⟨rfl, rfl⟩
  rw [e8]
  go_wp2
  exact ⟨rfl, _, by simp [results, Try.results88], rfl, rfl⟩
end Go.Proofs.Ytlbpmboknmbcgaa
