/- Rows of booleans beside a bank. -/
import Derived.Test.YtmdmhjcdaejlkaaAwk12
set_option linter.unusedVariables false
set_option linter.unusedSimpArgs false
namespace Go.Proofs.Ytmdmhjcdaejlkaa
open Go.RowKit

theorem info_bool : (Try.prog.info? 4).map (fun i => (i.zero, i.size, i.bytes)) = some (some (.bool false), 1, 1) := by kernel_rfl
theorem run_mkBo (n : Nat) (hn : n ≤ 1000) : ∃ zr : Array Value, zr = (List.replicate n (Value.bool false)).toArray ∧ ∀ W, (Instr.makeSlice 87 (.int .i64 (n : Int)) (.int .i64 (n : Int))).run Try.prog W = .ok (.slice (some ⟨W.heap.size, 0, none⟩) n n) (W.alloc (.cells zr 4)) := by
  obtain ⟨i, h1, h2⟩ := Option.map_eq_some_iff.1 info_bool
  simp only [Prod.mk.injEq] at h2
  refine ⟨_, rfl, fun W => ?_⟩
  have h := run_make (P := Try.prog) W 87 4 i (.bool false) Try.underlying87 h1 h2.1 .i64 .i64 n n (by omega) (by omega) (by rw [h2.2.2]; omega) (by omega)
  have e : madeCells (Value.bool false).cells (n * 1) = (List.replicate n (Value.bool false)).toArray := by
    apply Array.ext'
    rw [Nat.mul_one, List.toList_toArray]
    exact toList_madeCells_one _ _
  rw [h, h2.2.1]
  show Result.ok _ (W.alloc (.cells (madeCells (Value.bool false).cells (n * 1)) _)) = _
  rw [e]
  rfl
def bo1 (l : List (Bool × Bool)) : List Value := l.map fun p => .bool p.1
def bo2 (l : List (Bool × Bool)) : List Value := l.map fun p => .bool p.2
theorem bo1_get (l : List (Bool × Bool)) (k : Nat) : (bo1 l)[k]? = l[k]?.map fun p => Value.bool p.1 := by unfold bo1; rw [List.getElem?_map]
theorem bo2_get (l : List (Bool × Bool)) (k : Nat) : (bo2 l)[k]? = l[k]?.map fun p => Value.bool p.2 := by unfold bo2; rw [List.getElem?_map]
theorem bo1_set (l : List (Bool × Bool)) (k : Nat) (p : Bool × Bool) : bo1 (l.set k p) = (bo1 l).set k (.bool p.1) := by unfold bo1; rw [List.map_set]
theorem bo2_set (l : List (Bool × Bool)) (k : Nat) (p : Bool × Bool) : bo2 (l.set k p) = (bo2 l).set k (.bool p.2) := by unfold bo2; rw [List.map_set]
theorem list_set_same {α : Type} (l : List α) (k : Nat) (x : α) (h : l[k]? = some x) : l.set k x = l := by
  apply List.ext_getElem?
  intro j
  rw [List.getElem?_set]
  split
  · rename_i e; subst e
    have hk := (List.getElem?_eq_some_iff.1 h).1
    rw [if_pos hk, h]
  · rfl
theorem bo1_same {l : List (Bool × Bool)} {k : Nat} {s f : Bool} (h : l[k]? = some (s, f)) (g : Bool) : bo1 (l.set k (s, g)) = bo1 l := by
  rw [bo1_set, list_set_same _ _ _ (by rw [bo1_get, h]; rfl)]
theorem bo2_same {l : List (Bool × Bool)} {k : Nat} {s f : Bool} (h : l[k]? = some (s, f)) (g : Bool) : bo2 (l.set k (g, f)) = bo2 l := by
  rw [bo2_set, list_set_same _ _ _ (by rw [bo2_get, h]; rfl)]
/-- two rows of booleans: which block holds, and is the other one new -/
structure Bo (W : World) (base gs gf : Nat) (l : List (Bool × Bool)) : Prop where
  s : Row W gs (bo1 l).toArray 4
  f : Row W gf (bo2 l).toArray 4
  ne : gs ≠ gf
  hs : base ≤ gs
  hf : base ≤ gf
theorem Bo.up {W W' : World} {base gs gf : Nat} {l : List (Bool × Bool)} (h : Bo W base gs gf l) (hb : Below W.heap.size W W') : Bo W' base gs gf l := ⟨h.s.below hb h.s.lt, h.f.below hb h.f.lt, h.ne, h.hs, h.hf⟩
section
variable {W W' : World} {base b n g gB gp at_ boot seq gs gf : Nat} {D : Dk} {key : List UInt8} {l m : List (Bool × Bool)}
theorem Bk.neBo (h : Bk W base b n D g key boot seq gB gp at_ l) {c : Array Value} {x : Nat} (hx : Row W x c 4) : x ≠ g ∧ x ≠ gB ∧ x ≠ gp :=
  ⟨fun e => absurd (row_typeB hx (e ▸ h.p.row)) (by decide), fun e => absurd (row_typeB hx (e ▸ h.k.row)) (by decide), fun e => absurd (row_typeB hx (e ▸ h.k.pl)) (by decide)⟩
theorem Bo.px (o : Bo W base gs gf m) (h : Bk W base b n D g key boot seq gB gp at_ l) (hp : PX [g, gp] base W W') : Bo W' base gs gf m :=
  ⟨hp.2 _ _ _ o.s (by decide) (by have := h.neBo o.s; simp [this.1, this.2.2]), hp.2 _ _ _ o.f (by decide) (by have := h.neBo o.f; simp [this.1, this.2.2]), o.ne, o.hs, o.hf⟩
theorem Bk.setBo (h : Bk W base b n D g key boot seq gB gp at_ l) {c : Array Value} {x : Nat} (hx : Row W x c 4) (hb : base ≤ x) (j : Nat) (v : Value) : Bk (W.setCell ⟨x, j, none⟩ v) base b n D g key boot seq gB gp at_ l := by
  have hn := h.neBo hx
  exact ⟨h.i.set hx _ (by decide) hb, h.p.set (j := j) v (Ne.symm hn.1), ⟨h.k.row.set_other _ _ (Ne.symm hn.2.1), h.k.pl.set_other _ _ (Ne.symm hn.2.2)⟩, h.hg, h.hgp⟩
theorem Bo.set1 (o : Bo W base gs gf l) {k : Nat} {s f : Bool} (hk : l[k]? = some (s, f)) (x : Bool) : Bo (W.setCell ⟨gs, k, none⟩ (.bool x)) base gs gf (l.set k (x, f)) := by
  refine ⟨?_, ?_, o.ne, o.hs, o.hf⟩
  · have := o.s.set k (.bool x)
    rw [List.setIfInBounds_toArray, ← bo1_set l k (x, f)] at this
    exact this
  · rw [bo2_same hk x]
    exact o.f.set_other _ _ (Ne.symm o.ne)
theorem Bo.set2 (o : Bo W base gs gf l) {k : Nat} {s f : Bool} (hk : l[k]? = some (s, f)) (x : Bool) : Bo (W.setCell ⟨gf, k, none⟩ (.bool x)) base gs gf (l.set k (s, x)) := by
  refine ⟨?_, ?_, o.ne, o.hs, o.hf⟩
  · rw [bo1_same hk x]
    exact o.s.set_other _ _ o.ne
  · have := o.f.set k (.bool x)
    rw [List.setIfInBounds_toArray, ← bo2_set l k (s, x)] at this
    exact this
theorem Bo.c1 (o : Bo W base gs gf l) {k : Nat} {s f : Bool} (hk : l[k]? = some (s, f)) : W.cell? ⟨gs, k, none⟩ = some (.bool s) := o.s.cell k (by simp [bo1_get, hk])
theorem Bo.c2 (o : Bo W base gs gf l) {k : Nat} {s f : Bool} (hk : l[k]? = some (s, f)) : W.cell? ⟨gf, k, none⟩ = some (.bool f) := o.f.cell k (by simp [bo2_get, hk])
end
end Go.Proofs.Ytmdmhjcdaejlkaa
