/- Rows of bytes, the same or not: bytes.Equal, the reference's Same. -/
import Derived.Test.YtmdmhjcdaejlkaaMem
import Derived.Test.YtmdmhjcdaejlkaaProg
import Derived.Test.YtmdmhjcdaejlkaaLe
set_option linter.unusedVariables false
set_option linter.unusedSimpArgs false
namespace Go.Proofs.Ytmdmhjcdaejlkaa
open Go.RowKit

theorem conv_rd {W : World} {A : Option Addr} {n c : Nat} {xs : List UInt8} (h : RdB W A n xs) : (convert 24 9 (.slice A n c)).run Try.prog W = .ok (.string (strB xs)) W :=
  run_str W 24 5 Try.underlying24 Try.underlying5 A n c xs h 9 Try.underlying9
theorem strB_ne {xs ys : List UInt8} (h : xs ≠ ys) : ¬ (strB xs).toList = (strB ys).toList := by
  rw [Go.ByteArray.toList_eq, Go.ByteArray.toList_eq]
  simpa [strB] using h
theorem c_bytesEq (W : World) (A B : Option Addr) (n m c d : Nat) (xs ys : List UInt8) (h1 : RdB W A n xs) (h2 : RdB W B m ys) (r : Bool) (hr : (xs == ys) = r) :
    Calls Try.prog 72 #[.slice A n c, .slice B m d] W fun e w' => e = .returned (.bool r) ∧ W = w' := by
  have s1 := conv_rd (c := c) h1
  have s2 := conv_rd (c := d) h2
  by_cases he : xs = ys
  · subst he
    obtain rfl : true = r := by rw [← hr]; simp
    clear hr
    generalize strB xs = x at *
    go_enter Try.func72, Try.ntmps72
    go_wp2
    exact ⟨rfl, .bool true, by simp [results, Try.results72], rfl, rfl⟩
  · obtain rfl : false = r := by rw [← hr]; simp [he]
    have hne := strB_ne he
    clear hr
    generalize strB xs = x at *
    generalize strB ys = y at *
    go_enter Try.func72, Try.ntmps72
    go_wp2
    exact ⟨rfl, .bool false, by simp [results, Try.results72, hne], rfl, rfl⟩
theorem c_rSame (W : World) (A B : Option Addr) (n m c d : Nat) (xs ys : List UInt8) (h1 : RdB W A n xs) (h2 : RdB W B m ys) (r : Bool) (hr : (xs == ys) = r) :
    Calls Try.prog 25 #[.slice A n c, .slice B m d] W fun e w' => e = .returned (.bool r) ∧ W = w' := by
  have s1 := conv_rd (c := c) h1
  have s2 := conv_rd (c := d) h2
  by_cases he : xs = ys
  · subst he
    obtain rfl : true = r := by rw [← hr]; simp
    clear hr
    generalize strB xs = x at *
    go_enter Try.func25, Try.ntmps25
    go_wp2
    exact ⟨rfl, .bool true, by simp [results, Try.results25], rfl, rfl⟩
  · obtain rfl : false = r := by rw [← hr]; simp [he]
    have hne := strB_ne he
    clear hr
    generalize strB xs = x at *
    generalize strB ys = y at *
    go_enter Try.func25, Try.ntmps25
    go_wp2
    exact ⟨rfl, .bool false, by simp [results, Try.results25, hne], rfl, rfl⟩
end Go.Proofs.Ytmdmhjcdaejlkaa
