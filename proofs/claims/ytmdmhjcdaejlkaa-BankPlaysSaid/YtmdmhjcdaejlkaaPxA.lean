/- The frame PX (all but the blocks of X and the device's stay), and Try over closures in it. -/
import Derived.Test.YtmdmhjcdaejlkaaPenC
set_option linter.unusedVariables false
set_option linter.unusedSimpArgs false
namespace Go.Proofs.Ytmdmhjcdaejlkaa
open Go.RowKit

theorem In.monoR {W : World} {base b n m : Nat} {D : Dk} (h : In W base b D n) (hn : n ≤ m) : In W base b D m := ⟨h.dk, h.le, h.bd.mono hn⟩
/-- all but the blocks of X and the device's stay -/
def PX (X : List Nat) (base : Nat) (W W' : World) : Prop := Below base W W' ∧ ∀ k c T, Row W k c T → T ∉ dTy → k ∉ X → Row W' k c T
theorem PX.of_pr {g base : Nat} {W W' : World} {X : List Nat} (h : PR g base W W') (hg : g ∈ X) : PX X base W W' := ⟨h.1, fun k c T hr hT hk => h.2 k c T hr hT (fun e => hk (e ▸ hg))⟩
theorem PX.trans {X : List Nat} {base : Nat} {a b c : World} (h1 : PX X base a b) (h2 : PX X base b c) : PX X base a c := ⟨h1.1.trans h2.1, fun k x T hr hT hk => h2.2 k x T (h1.2 k x T hr hT hk) hT hk⟩
theorem PX.of_below {X : List Nat} {base : Nat} {W W' : World} (hb : Below W.heap.size W W') (hbase : base ≤ W.heap.size) : PX X base W W' := ⟨hb.mono hbase, fun k c T hr _ _ => hr.below hb hr.lt⟩
theorem PX.set {X : List Nat} {base g j : Nat} {W : World} {v : Value} (hg : base ≤ g) (hX : g ∈ X) : PX X base W (W.setCell ⟨g, j, none⟩ v) := ⟨(Below.refl base W).setCell (p := ⟨g, j, none⟩) hg v, fun k c T hr hT hk => hr.set_other j v (fun e => hk (e ▸ hX))⟩
theorem PX.less {X Y : List Nat} {base : Nat} {W W' : World} (h : PX X base W W') (hXY : ∀ x ∈ X, x ∈ Y) : PX Y base W W' := ⟨h.1, fun k c T hr hT hk => h.2 k c T hr hT (fun hx => hk (hXY k hx))⟩
theorem PenAt.set {W : World} {b g k j boot seq : Nat} {key : List UInt8} (h : PenAt W g b key boot seq) (v : Value) (hk : g ≠ k) : PenAt (W.setCell ⟨k, j, none⟩ v) g b key boot seq := ⟨h.row.set_other j v hk, h.kl, h.bl⟩
variable {W : World} {base b n g g10 g11 g13 boot : Nat} {D : Dk} {key : List UInt8}
/-- Try over a closure that ends: the fresh cell of its own aside -/
theorem px_tryOk {K : FuncId} {caps : Array Value} {n' : Nat} {D' : Dk} {X : List Nat} {R : World → Prop} (hcf : ∀ w, (callFunc K caps).run Try.prog w = .ok (.enter K caps) w) (h : In W base b D n) (hX : ∀ x ∈ X, x < W.heap.size)
    (hRs : ∀ w v, Row w W.heap.size #[.bool false] 4 → R w → R (w.setCell ⟨W.heap.size, 0, none⟩ v))
    (hc : ∀ W0, Below W.heap.size W W0 → Calls Try.prog K caps W0 fun e w' => e = .returned (.tuple #[]) ∧ In w' base b D' n' ∧ PX X base W0 w' ∧ R w') :
    Calls Try.prog 44 #[.func (Fn.func K) #[] caps] W fun e w' => e = .returned (.bool true) ∧ In w' base b D' n' ∧ PX X base W w' ∧ R w' := by
  have hb0 := below_alloc (Below.refl W.heap.size W) (.cells #[.bool false] 4)
  have hr0 : Row (W.alloc (.cells #[.bool false] 4)) W.heap.size #[.bool false] 4 := Row.new _ _ _
  have hnX : W.heap.size ∉ X := fun hx => Nat.lt_irrefl _ (hX _ hx)
  refine (c_tryOk W (fun w => In w base b D' n' ∧ PX X base (W.alloc (.cells #[.bool false] 4)) w ∧ R w) hcf ((hc _ hb0).mono ?_)).mono ?_
  · rintro e w' ⟨rfl, hi, hp, hr⟩
    exact ⟨rfl, hp.2 _ _ _ hr0 (by decide) hnX, hi, hp, hr⟩
  · rintro e w' ⟨rfl, w1, ⟨hi, hp, hR⟩, hr, rfl⟩
    refine ⟨rfl, hi.set hr _ (by decide) h.le, ⟨((hb0.mono h.le).trans hp.1).setCell (p := ⟨W.heap.size, 0, none⟩) h.le _, fun k c T hk hT hkX => ?_⟩, hRs _ _ hr hR⟩
    exact (hp.2 k c T (hk.alloc _) hT hkX).set_other 0 _ (by have := hk.lt; omega)
theorem px_tryGone {K : FuncId} {caps : Array Value} {n' : Nat} {D' : Dk} {X : List Nat} {R : World → Prop} (hcf : ∀ w, (callFunc K caps).run Try.prog w = .ok (.enter K caps) w) (h : In W base b D n) (hX : ∀ x ∈ X, x < W.heap.size)
    (hRs : ∀ w v, Row w W.heap.size #[.bool false] 4 → R w → R ((w.alloc (.cells #[] 112)).setCell ⟨W.heap.size, 0, none⟩ v))
    (hc : ∀ W0, Below W.heap.size W W0 → Calls Try.prog K caps W0 fun e w' => e = gonePanic ∧ In w' base b D' n' ∧ PX X base W0 w' ∧ R w') :
    Calls Try.prog 44 #[.func (Fn.func K) #[] caps] W fun e w' => e = .returned (.bool false) ∧ In w' base b D' n' ∧ PX X base W w' ∧ R w' := by
  have hb0 := below_alloc (Below.refl W.heap.size W) (.cells #[.bool false] 4)
  have hr0 : Row (W.alloc (.cells #[.bool false] 4)) W.heap.size #[.bool false] 4 := Row.new _ _ _
  have hnX : W.heap.size ∉ X := fun hx => Nat.lt_irrefl _ (hX _ hx)
  refine (c_tryGone W (fun w => In w base b D' n' ∧ PX X base (W.alloc (.cells #[.bool false] 4)) w ∧ R w) hcf ((hc _ hb0).mono ?_)).mono ?_
  · rintro e w' ⟨rfl, hi, hp, hr⟩
    exact ⟨rfl, hp.2 _ _ _ hr0 (by decide) hnX, hi, hp, hr⟩
  · rintro e w' ⟨rfl, w1, ⟨hi, hp, hR⟩, hr, rfl⟩
    refine ⟨rfl, (hi.alloc _).set (hr.alloc _) _ (by decide) h.le, ⟨(((hb0.mono h.le).trans hp.1).alloc hi.le _).setCell (p := ⟨W.heap.size, 0, none⟩) h.le _, fun k c T hk hT hkX => ?_⟩, hRs _ _ hr hR⟩
    exact ((hp.2 k c T (hk.alloc _) hT hkX).alloc _).set_other 0 _ (by have := hk.lt; omega)
end Go.Proofs.Ytmdmhjcdaejlkaa
