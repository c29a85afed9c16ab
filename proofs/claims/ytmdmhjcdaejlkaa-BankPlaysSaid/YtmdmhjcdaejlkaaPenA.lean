/- The pen: its struct, its methods. -/
import Derived.Test.YtmdmhjcdaejlkaaDiskFr
import Derived.Test.YtmdmhjcdaejlkaaTel
import Derived.Test.YtmdmhjcdaejlkaaMask
set_option linter.unusedVariables false
set_option linter.unusedSimpArgs false
namespace Go.Proofs.Ytmdmhjcdaejlkaa
open Go.RowKit

def penC (b : Nat) (key : List UInt8) (boot seq : Nat) : Array Value := (Value.pointer (some ⟨b, 0, none⟩) :: (bv key ++ [.int .u32 (boot : Int), .int .u64 (seq : Int)])).toArray
/-- a pen's struct at block g -/
structure PenAt (W : World) (g b : Nat) (key : List UInt8) (boot seq : Nat) : Prop where
  row : Row W g (penC b key boot seq) 95
  kl : key.length = 32
  bl : boot < 4294967296
variable {W : World} {g b : Nat} {key : List UInt8} {boot seq : Nat}
theorem PenAt.below {W' : World} {B : Nat} (h : PenAt W g b key boot seq) (hb : Below B W W') (hg : g < B) : PenAt W' g b key boot seq := ⟨h.row.below hb hg, h.kl, h.bl⟩
theorem PenAt.dr {W' : World} {base : Nat} (h : PenAt W g b key boot seq) (hd : DR dTy base W W') : PenAt W' g b key boot seq := ⟨h.row.dr hd (by decide), h.kl, h.bl⟩
theorem PenAt.lt (h : PenAt W g b key boot seq) : g < W.heap.size := h.row.lt
theorem pen_c0 (h : PenAt W g b key boot seq) : W.cell? ⟨g, 0, none⟩ = some (.pointer (some ⟨b, 0, none⟩)) := h.row.cell 0 rfl
theorem pen_ck (h : PenAt W g b key boot seq) (q : Nat) (v : Value) (hv : (bv key)[q]? = some v) : W.cell? ⟨g, 1 + q, none⟩ = some v := by
  refine h.row.cell (1 + q) ?_
  have hq : q < (bv key).length := (List.getElem?_eq_some_iff.1 hv).1
  unfold penC
  rw [List.getElem?_toArray, Nat.add_comm, List.getElem?_cons_succ, List.getElem?_append_left hq]
  exact hv
theorem pen_c33 (h : PenAt W g b key boot seq) : W.cell? ⟨g, 33, none⟩ = some (.int .u32 (boot : Int)) := by
  refine h.row.cell 33 ?_
  unfold penC
  rw [List.getElem?_toArray, show (33 : Nat) = 32 + 1 from rfl, List.getElem?_cons_succ, List.getElem?_append_right (by rw [bv_length, h.kl]; exact Nat.le_refl _), bv_length, h.kl]
  rfl
theorem pen_c34 (h : PenAt W g b key boot seq) : W.cell? ⟨g, 34, none⟩ = some (.int .u64 (seq : Int)) := by
  refine h.row.cell 34 ?_
  unfold penC
  rw [List.getElem?_toArray, show (34 : Nat) = 33 + 1 from rfl, List.getElem?_cons_succ, List.getElem?_append_right (by rw [bv_length, h.kl]; decide), bv_length, h.kl]
  rfl
theorem penC_set (hk : key.length = 32) (s : Nat) : (penC b key boot seq).setIfInBounds 34 (.int .u64 (s : Int)) = penC b key boot s := by
  unfold penC
  rw [List.setIfInBounds_toArray, show (34 : Nat) = 33 + 1 from rfl, List.set_cons_succ, List.set_append_right _ _ (by rw [bv_length, hk]; decide), bv_length, hk]
  rfl
theorem PenAt.next (h : PenAt W g b key boot seq) (s : Nat) : PenAt (W.setCell ⟨g, 34, none⟩ (.int .u64 (s : Int))) g b key boot s := by
  have h1 := h.row.set 34 (.int .u64 (s : Int))
  rw [penC_set h.kl] at h1
  exact ⟨h1, h.kl, h.bl⟩
/-- the device, and the pen g: all other rows that the device does not write stay -/
def PR (g base : Nat) (W W' : World) : Prop := Below base W W' ∧ ∀ k c T, Row W k c T → T ∉ dTy → k ≠ g → Row W' k c T
theorem PR.of_dr {base : Nat} {W' : World} (g : Nat) (h : DR dTy base W W') : PR g base W W' := ⟨h.below, fun k c T hr hT _ => hr.dr h hT⟩
theorem PR.trans {base : Nat} {a b' c : World} (h1 : PR g base a b') (h2 : PR g base b' c) : PR g base a c := ⟨h1.1.trans h2.1, fun k x T hr hT hk => h2.2 k x T (h1.2 k x T hr hT hk) hT hk⟩
theorem PR.set {base : Nat} (g j : Nat) (v : Value) (hg : base ≤ g) : PR g base W (W.setCell ⟨g, j, none⟩ v) := ⟨(Below.refl base W).setCell (p := ⟨g, j, none⟩) hg v, fun k c T hr hT hk => hr.set_other j v hk⟩
theorem PenAt.pr {W' : World} {base g2 : Nat} (h : PenAt W g b key boot seq) (hp : PR g2 base W W') (hne : g ≠ g2) : PenAt W' g b key boot seq := ⟨hp.2 _ _ _ h.row (by decide) hne, h.kl, h.bl⟩
theorem p_seq (h : PenAt W g b key boot seq) : Calls Try.prog 29 #[.pointer (some ⟨g, 0, none⟩)] W fun e w' => e = .returned (.int .u64 (seq : Int)) ∧ W = w' := by
  have c34 := pen_c34 h
  clear h
  go_enter Try.func29, Try.ntmps29
  go_wp2
  go_ret
  exact ⟨rfl, rfl⟩
theorem p_flush {base n : Nat} {D : Dk} (h : PenAt W g b key boot seq) (hI : In W base b D n) (hn : n ≤ 900000) (hg : D.goes = false) : Calls Try.prog 28 #[.pointer (some ⟨g, 0, none⟩)] W fun e w' => e = .returned (.tuple #[]) ∧ In w' base b D.flush (n + 1) ∧ DR dTy base W w' := by
  have c0 := pen_c0 h
  have HF := Lib.hid (i_flush hI hn hg)
  clear h hI hg
  go_enter Try.func28, Try.ntmps28
  go_wp2_with fail
  refine HF.out.mono ?_
  rintro e w1 ⟨rfl, hI, hd⟩
  go_wp2
  exact ⟨rfl, _, by simp [results, Try.results28], rfl, hI, hd⟩
end Go.Proofs.Ytmdmhjcdaejlkaa
