/- pen.New. -/
import Derived.Test.YtmdmhjcdaejlkaaPenB
import Derived.Laws.Tables
set_option linter.unusedVariables false
set_option linter.unusedSimpArgs false
namespace Go.Proofs.Ytmdmhjcdaejlkaa
open Go.RowKit

theorem cons_of {l : List UInt8} {n : Nat} (h : l.length = n + 1) : ∃ x t, l = x :: t ∧ t.length = n := by
  cases l with
  | nil => simp at h
  | cons x t => exact ⟨x, t, rfl, by simpa using h⟩
set_option maxRecDepth 100000 in
theorem pen_fold (b : Nat) (key : List UInt8) (hk : key.length = 32) : ∃ PK : Array Value, PK.size = 35 ∧ (∀ boot : Nat, PK.setIfInBounds 33 (.int .u32 (boot : Int)) = penC b key boot 0) ∧ List.foldl (fun (cs : Array Value) (x : Value × Nat) => cs.setIfInBounds (1 + x.snd) x.fst) (#[.pointer (some ⟨b, 0, none⟩), .int .u8 0, .int .u8 0, .int .u8 0, .int .u8 0, .int .u8 0, .int .u8 0, .int .u8 0, .int .u8 0, .int .u8 0, .int .u8 0, .int .u8 0, .int .u8 0, .int .u8 0, .int .u8 0, .int .u8 0, .int .u8 0, .int .u8 0, .int .u8 0, .int .u8 0, .int .u8 0, .int .u8 0, .int .u8 0, .int .u8 0, .int .u8 0, .int .u8 0, .int .u8 0, .int .u8 0, .int .u8 0, .int .u8 0, .int .u8 0, .int .u8 0, .int .u8 0, .int .u32 0, .int .u64 0] : Array Value) (bv key).zipIdx = PK := by
  refine ⟨(.pointer (some ⟨b, 0, none⟩) :: (bv key ++ [.int .u32 0, .int .u64 0])).toArray, ?_, fun boot => ?_, ?_⟩
  · simp [bv_length, hk]
  · unfold penC
    rw [List.setIfInBounds_toArray, show (33 : Nat) = 32 + 1 from rfl, List.set_cons_succ, List.set_append_right _ _ (by rw [bv_length, hk]; decide), bv_length, hk]
    rfl
  · obtain ⟨x0, t0, rfl, h0⟩ := cons_of hk
    obtain ⟨x1, t1, rfl, h1⟩ := cons_of h0
    obtain ⟨x2, t2, rfl, h2⟩ := cons_of h1
    obtain ⟨x3, t3, rfl, h3⟩ := cons_of h2
    obtain ⟨x4, t4, rfl, h4⟩ := cons_of h3
    obtain ⟨x5, t5, rfl, h5⟩ := cons_of h4
    obtain ⟨x6, t6, rfl, h6⟩ := cons_of h5
    obtain ⟨x7, t7, rfl, h7⟩ := cons_of h6
    obtain ⟨x8, t8, rfl, h8⟩ := cons_of h7
    obtain ⟨x9, t9, rfl, h9⟩ := cons_of h8
    obtain ⟨x10, t10, rfl, h10⟩ := cons_of h9
    obtain ⟨x11, t11, rfl, h11⟩ := cons_of h10
    obtain ⟨x12, t12, rfl, h12⟩ := cons_of h11
    obtain ⟨x13, t13, rfl, h13⟩ := cons_of h12
    obtain ⟨x14, t14, rfl, h14⟩ := cons_of h13
    obtain ⟨x15, t15, rfl, h15⟩ := cons_of h14
    obtain ⟨x16, t16, rfl, h16⟩ := cons_of h15
    obtain ⟨x17, t17, rfl, h17⟩ := cons_of h16
    obtain ⟨x18, t18, rfl, h18⟩ := cons_of h17
    obtain ⟨x19, t19, rfl, h19⟩ := cons_of h18
    obtain ⟨x20, t20, rfl, h20⟩ := cons_of h19
    obtain ⟨x21, t21, rfl, h21⟩ := cons_of h20
    obtain ⟨x22, t22, rfl, h22⟩ := cons_of h21
    obtain ⟨x23, t23, rfl, h23⟩ := cons_of h22
    obtain ⟨x24, t24, rfl, h24⟩ := cons_of h23
    obtain ⟨x25, t25, rfl, h25⟩ := cons_of h24
    obtain ⟨x26, t26, rfl, h26⟩ := cons_of h25
    obtain ⟨x27, t27, rfl, h27⟩ := cons_of h26
    obtain ⟨x28, t28, rfl, h28⟩ := cons_of h27
    obtain ⟨x29, t29, rfl, h29⟩ := cons_of h28
    obtain ⟨x30, t30, rfl, h30⟩ := cons_of h29
    obtain ⟨x31, t31, rfl, h31⟩ := cons_of h30
    obtain rfl := List.eq_nil_of_length_eq_zero h31
    kernel_rfl
set_option maxHeartbeats 4000000 in
set_option maxRecDepth 100000 in
theorem p_new (b : Nat) (key : List UInt8) (hk : key.length = 32) (boot : Nat) (hb : boot < 4294967296) (W : World) :
    Calls Try.prog 18 #[.pointer (some ⟨b, 0, none⟩), .agg (bv key).toArray, .int .u32 (boot : Int)] W fun e w' => ∃ g, e = .returned (.pointer (some ⟨g, 0, none⟩)) ∧ PenAt w' g b key boot 0 ∧ W.heap.size ≤ g ∧ Below W.heap.size W w' := by
  have r0 := Row.new W (bv key).toArray 22
  have hB0 := below_alloc (Below.refl W.heap.size W) (.cells (bv key).toArray 22)
  have HK := Lib.hid hk
  have HB := Lib.hid hb
  obtain ⟨PK, hPs, hPK, hfold⟩ := pen_fold b key hk
  have h32 : (bv key).length = 32 := by rw [bv_length, hk]
  have HPK := Lib.hid hPK
  clear hb hk hPK
  go_enter Try.func18, Try.ntmps18
  go_upto_region 1 with fail
  generalize W.alloc (.cells (bv key).toArray 22) = w1 at *
  go_wp2_with (apply wpl_loadS (ty := 22); rfl; rfl; rfl; kernel_rfl; exact r0; (simp only [List.size_toArray, bv_length, HK.out]; kernel_rfl); simp only [Act.put, List.setIfInBounds_toArray, List.set_cons_zero, List.set_cons_succ])
  go_ret
  refine ⟨_, rfl, ⟨?_, HK.out, HB.out⟩, hB0.size, below_alloc hB0 _⟩
  rw [← HPK.out]
  exact Row.new w1 _ 95
end Go.Proofs.Ytmdmhjcdaejlkaa
