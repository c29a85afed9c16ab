/- Seal and Open of any size, theirs and the reference's, under one form. -/
import Derived.Test.YtmdmhjcdaejlkaaGD
import Derived.Test.YtmdmhjcdaejlkaaRow
set_option linter.unusedVariables false
set_option linter.unusedSimpArgs false
namespace Go.Proofs.Ytmdmhjcdaejlkaa
open Go.RowKit

def sealT (key : List UInt8) (boot seq : Nat) (plain : List UInt8) (n : Nat) (S : Int) : List UInt8 := if fitsB n S = true then sealL key boot seq plain S.toNat else []
def opB (key b : List UInt8) : Nat := if (openL key b).isSome = true then bootN b else 0
def opS (key b : List UInt8) : Nat := if (openL key b).isSome = true then seqN b else 0
def opP (key b : List UInt8) : List UInt8 := (openL key b).getD []
theorem openRes_form {key b : List UInt8} {B : Nat} {e : Ending} {w' : World} (h : OpenRes key b B e w') :
    ∃ v, e = .returned (.tuple #[v, .int .u32 (opB key b : Nat), .int .u64 (opS key b : Nat), .bool (openL key b).isSome]) ∧ OwnB w' B 5 v (opP key b) := by
  unfold opB opS opP
  cases ho : openL key b with
  | none => exact ⟨_, h.2 ho, OwnB.nil_ _ _ _⟩
  | some p =>
    obtain ⟨v, e1, h1⟩ := h.1 p ho
    exact ⟨v, e1, h1⟩
set_option maxHeartbeats 2000000 in
set_option maxRecDepth 100000 in
/-- a size that is too small for a head: nothing is sealed -/
theorem c_sealLow (key : List UInt8) (boot seq : Nat) (hb : boot < 4294967296) (A : Option Addr) (n c : Nat) (S : Int) (w : World) (h1 : -9223372036854775808 ≤ S) (hS : S < 22) :
    Calls Try.prog 58 #[.agg (bv key).toArray, .int .u32 (boot : Int), .int .u64 (seq : Int), .slice A n c, .int .i64 S] w fun e w' => e = .returned (.tuple #[.slice none 0 0, .bool false]) ∧ Below w.heap.size w w' := by
  have hB0 := below_alloc (Below.refl w.heap.size w) (.cells (bv key).toArray 22)
  generalize hw0 : w.alloc (.cells (bv key).toArray 22) = w0 at *
  have HW0 := Lib.hid hw0
  clear hw0
  have hln := headL12_length boot seq
  have HLN := Lib.hid hln
  have hall := bv_all (headL12 boot seq)
  have HC := Lib.hid (c_head boot seq hb w0)
  clear hln
  generalize headL12 boot seq = H at *
  go_enter Try.func58, Try.ntmps58
  go_upto_region 1 with fail
  rw [HW0.out]
  go_upto_region 2 with (first | (go_at_call 82; refine HC.out.mono ?_; rintro e w1 ⟨rfl, hb1⟩) | (apply wpl_storeN; rfl; rfl; rfl; (first | rfl | simp); rfl; (simp only [List.size_toArray, bv_length, HLN.out]; kernel_rfl); (simp only [List.size_toArray, bv_length, HLN.out]; rfl); exact hall; simp only [Act.put]))
  have hB1 := below_alloc (below_two hB0 hb1) (.cells (bv H).toArray 43)
  generalize w1.alloc (.cells (bv H).toArray 43) = w2 at *
  clear HC hB0 hb1
  go_wp2_with fail
  go_ret2
  exact ⟨rfl, hB1⟩
theorem c_sealT (key : List UInt8) (hk : key.length = 32) (boot seq : Nat) (hb : boot < 4294967296) (A : Option Addr) (n c : Nat) (plain : List UInt8) (S : Int) (w : World) (hR : RdB w A n plain) (h1 : -9223372036854775808 ≤ S) (h2 : S ≤ 60000) (hn : 0 ≤ n) :
    Calls Try.prog 58 #[.agg (bv key).toArray, .int .u32 (boot : Int), .int .u64 (seq : Int), .slice A n c, .int .i64 S] w fun e w' => ∃ v, e = .returned (.tuple #[v, .bool (fitsB n S)]) ∧ OwnB w' w.heap.size 5 v (sealT key boot seq plain n S) ∧ Below w.heap.size w w' := by
  unfold sealT
  cases hf : fitsB n S with
  | true =>
    have hf' := (fitsB_iff n S).1 hf
    obtain ⟨T, rfl⟩ : ∃ T : Nat, S = (T : Int) := ⟨S.toNat, by omega⟩
    rw [if_pos rfl]
    exact c_seal key hk boot seq hb A n c plain T w hR (by omega) (by omega)
  | false =>
    rw [if_neg (by decide)]
    by_cases hlo : S < 22
    · refine (c_sealLow key boot seq hb A n c S w h1 hlo).mono ?_
      rintro e w' ⟨rfl, hb⟩
      exact ⟨_, rfl, OwnB.nil_ _ _ _, hb⟩
    · refine (c_sealNo key boot seq hb A n c plain S w hR (by omega) (by omega) hn hf).mono ?_
      rintro e w' ⟨rfl, hb⟩
      exact ⟨_, rfl, OwnB.nil_ _ _ _, hb⟩
theorem c_openT (key : List UInt8) (hk : key.length = 32) (A : Option Addr) (n c : Nat) (b : List UInt8) (w : World) (hR : RdB w A n b) (hc : n ≤ c) (hn : n ≤ 1000000) :
    Calls Try.prog 60 #[.agg (bv key).toArray, .slice A n c] w fun e w' => ∃ v, e = .returned (.tuple #[v, .int .u32 (opB key b : Nat), .int .u64 (opS key b : Nat), .bool (openL key b).isSome]) ∧ OwnB w' w.heap.size 5 v (opP key b) ∧ Below w.heap.size w w' := by
  refine (c_open key hk A n c b w hR hc hn).mono ?_
  rintro e w' ⟨h, hb⟩
  obtain ⟨v, rfl, ho⟩ := openRes_form h
  exact ⟨v, rfl, ho, hb⟩
theorem c_rOpenT (key : List UInt8) (hk : key.length = 32) (A : Option Addr) (n c : Nat) (b : List UInt8) (w : World) (hR : RdB w A n b) (hc : n ≤ c) (hn : n ≤ 1000000) :
    Calls Try.prog 23 #[.agg (bv key).toArray, .slice A n c] w fun e w' => ∃ v, e = .returned (.tuple #[v, .int .u32 (opB key b : Nat), .int .u64 (opS key b : Nat), .bool (openL key b).isSome]) ∧ OwnB w' w.heap.size 5 v (opP key b) ∧ Below w.heap.size w w' := by
  refine (c_rOpen key hk A n c b w hR hc hn).mono ?_
  rintro e w' ⟨h, hb⟩
  obtain ⟨v, rfl, ho⟩ := openRes_form h
  exact ⟨v, rfl, ho, hb⟩
end Go.Proofs.Ytmdmhjcdaejlkaa
