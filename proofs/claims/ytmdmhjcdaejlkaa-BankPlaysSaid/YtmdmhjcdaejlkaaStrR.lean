/- Rows of strings beside a bank. -/
import Derived.Test.YtmdmhjcdaejlkaaBoolR
import Derived.Test.YtmdmhjcdaejlkaaBankF
set_option linter.unusedVariables false
set_option linter.unusedSimpArgs false
namespace Go.Proofs.Ytmdmhjcdaejlkaa
open Go.RowKit

theorem info_str : (Try.prog.info? 9).map (fun i => (i.zero, i.size, i.bytes)) = some (some (.string ⟨#[]⟩), 1, 16) := by kernel_rfl
theorem run_mkSt (n : Nat) (hn : n ≤ 1000) : ∃ zr : Array Value, zr = (List.replicate n (Value.string ⟨#[]⟩)).toArray ∧ ∀ W, (Instr.makeSlice 82 (.int .i64 (n : Int)) (.int .i64 (n : Int))).run Try.prog W = .ok (.slice (some ⟨W.heap.size, 0, none⟩) n n) (W.alloc (.cells zr 9)) := by
  obtain ⟨i, h1, h2⟩ := Option.map_eq_some_iff.1 info_str
  simp only [Prod.mk.injEq] at h2
  refine ⟨_, rfl, fun W => ?_⟩
  have h := run_make (P := Try.prog) W 82 9 i (.string ⟨#[]⟩) Try.underlying82 h1 h2.1 .i64 .i64 n n (by omega) (by omega) (by rw [h2.2.2]; omega) (by omega)
  have e : madeCells (Value.string ⟨#[]⟩).cells (n * 1) = (List.replicate n (Value.string ⟨#[]⟩)).toArray := by
    apply Array.ext'
    rw [Nat.mul_one, List.toList_toArray]
    exact toList_madeCells_one _ _
  rw [h, h2.2.1]
  show Result.ok _ (W.alloc (.cells (madeCells (Value.string ⟨#[]⟩).cells (n * 1)) _)) = _
  rw [e]
  rfl
/-- what stands at a place, told as a string -/
def encS : Option (List UInt8) → ByteArray
  | none => ⟨#[]⟩
  | some xs => ⟨#[61]⟩ ++ strB xs
def strO (l : List (Option (List UInt8))) : List Value := l.map fun o => .string (encS o)
theorem strO_get (l : List (Option (List UInt8))) (k : Nat) : (strO l)[k]? = l[k]?.map fun o => Value.string (encS o) := by unfold strO; rw [List.getElem?_map]
theorem strO_set (l : List (Option (List UInt8))) (k : Nat) (o : Option (List UInt8)) : strO (l.set k o) = (strO l).set k (.string (encS o)) := by unfold strO; rw [List.map_set]
theorem strO_length (l : List (Option (List UInt8))) : (strO l).length = l.length := by unfold strO; simp
theorem strO_rep (n : Nat) : strO (List.replicate n none) = List.replicate n (Value.string ⟨#[]⟩) := by unfold strO; rw [List.map_replicate]; rfl
theorem strO_one (l : List (Option (List UInt8))) : ∀ v ∈ strO l, v.oneCell' = true := by
  intro v hv
  unfold strO at hv
  obtain ⟨o, -, rfl⟩ := List.mem_map.1 hv
  rfl
theorem encS_ne (xs : List UInt8) : ¬ (encS (some xs)).toList = [] := by
  show ¬ (⟨#[61]⟩ ++ strB xs : ByteArray).toList = []
  unfold strB
  rw [show (⟨#[61]⟩ : ByteArray) = ⟨[61].toArray⟩ from rfl, ByteArray.mk_append_mk, ByteArray.toList_mk]
  simp
theorem run_cpS {W : World} {g g2 n : Nat} {ty : TypeId} {L M : List (Option (List UInt8))} (hr : Row W g (strO L).toArray 9) (h2 : Row W g2 (strO M).toArray 9) (hL : L.length = n) (hM : M.length = n) :
    ∃ W', (Builtin.copy_ #[82, 82] ty #[.slice (some ⟨g, 0, none⟩) n n, .slice (some ⟨g2, 0, none⟩) n n]).run Try.prog W = .ok (.int .i64 (n : Int)) W' ∧ Upd g (strO M).toArray 9 W W' := by
  have hsz : (Try.prog.info? 9).map (·.size) = some 1 := by kernel_rfl
  have hlen : (strO M).length = Nat.min n n * 1 := by rw [strO_length, hM]; show n = min n n * 1; omega
  have hsrc : ∀ j v, (strO M)[j]? = some v → W.cell? ((⟨g2, 0, none⟩ : Addr).add j) = some v := by
    intro j v hj
    rw [ad_none, Nat.zero_add]
    exact h2.cell j (by simpa using hj)
  have hrun := run_copy_rowS (P := Try.prog) W 82 82 ty 9 g 0 n n 1 ⟨g2, 0, none⟩ n n (strO L).toArray 9 (strO M) Try.underlying82 hsz hr hlen hsrc (by
    rw [hlen, List.size_toArray, strO_length, hL]
    show 0 + min n n * 1 ≤ n
    omega) (strO_one _)
  rw [show Nat.min n n = n from Nat.min_self n] at hrun
  refine ⟨_, hrun, ?_⟩
  have e : ((strO L).toArray.toList.take 0 ++ strO M ++ (strO L).toArray.toList.drop (0 + (strO M).length)).toArray = (strO M).toArray := by
    rw [List.drop_of_length_le (by rw [List.toList_toArray, strO_length, strO_length, hL, hM]; omega)]
    simp
  rw [e]
  exact upd_set hr
theorem In.updG {W W' : World} {base b n g : Nat} {D : Dk} {c d : Array Value} {T : TypeId} (h : In W base b D n) (hr : Row W g c T) (hu : Upd g d T W W') (hT : T ∉ 5 :: dTy) (hg : base ≤ g) : In W' base b D n := by
  have hf : FR [T] [] base W W' := FR.of_upd hu hr (by simp) hg
  have hT' : 5 ∉ [T] ∧ 93 ∉ [T] ∧ 101 ∉ [T] ∧ 45 ∉ [T] := by
    simp only [dTy, List.mem_cons, List.not_mem_nil, or_false, not_or] at hT ⊢
    exact ⟨fun e => hT.1 e.symm, fun e => hT.2.1 e.symm, fun e => hT.2.2.1 e.symm, fun e => hT.2.2.2 e.symm⟩
  obtain ⟨mS, mN, lv, tv, hrow, hbb, hbS, hbN, hne, h1, h2, h3, h4⟩ := h.dk.out
  exact ⟨⟨⟨mS, mN, lv, tv, hf.row hrow hT'.2.1, hbb, hbS, hbN, hne, h1.fr hf hT'.1 (by simp) (Nat.le_refl _), h2.fr hf hT'.1 (by simp) (Nat.le_refl _), h3.fr hf hT'.1 hT'.2.2.1, h4.fr hf hT'.1 hT'.2.2.2⟩⟩, Nat.le_trans h.le hf.size, h.bd⟩
section
variable {W W' : World} {base b n g gB gp at_ boot seq gn gw x : Nat} {D : Dk} {key : List UInt8} {l : List (Bool × Bool)} {now was : List (Option (List UInt8))}
theorem Bk.neSt (h : Bk W base b n D g key boot seq gB gp at_ l) {c : Array Value} (hx : Row W x c 9) : x ≠ g ∧ x ≠ gB ∧ x ≠ gp :=
  ⟨fun e => absurd (row_typeB hx (e ▸ h.p.row)) (by decide), fun e => absurd (row_typeB hx (e ▸ h.k.row)) (by decide), fun e => absurd (row_typeB hx (e ▸ h.k.pl)) (by decide)⟩
theorem Bk.updS (h : Bk W base b n D g key boot seq gB gp at_ l) {c d : Array Value} (hx : Row W x c 9) (hu : Upd x d 9 W W') (hb : base ≤ x) : Bk W' base b n D g key boot seq gB gp at_ l := by
  have hn := h.neSt hx
  exact ⟨h.i.updG hx hu (by decide) hb, ⟨h.p.row.upd hu (Ne.symm hn.1), h.p.kl, h.p.bl⟩, ⟨h.k.row.upd hu (Ne.symm hn.2.1), h.k.pl.upd hu (Ne.symm hn.2.2)⟩, h.hg, h.hgp⟩
/-- what each place shall have, and had -/
structure So (W : World) (base gn gw : Nat) (now was : List (Option (List UInt8))) : Prop where
  n : Row W gn (strO now).toArray 9
  w : Row W gw (strO was).toArray 9
  ne : gn ≠ gw
  hn : base ≤ gn
  hw : base ≤ gw
theorem So.up (h : So W base gn gw now was) (hb : Below W.heap.size W W') : So W' base gn gw now was := ⟨h.n.below hb h.n.lt, h.w.below hb h.w.lt, h.ne, h.hn, h.hw⟩
theorem So.px (o : So W base gn gw now was) (h : Bk W base b n D g key boot seq gB gp at_ l) (hp : PX [g, gp] base W W') : So W' base gn gw now was :=
  ⟨hp.2 _ _ _ o.n (by decide) (by have := h.neSt o.n; simp [this.1, this.2.2]), hp.2 _ _ _ o.w (by decide) (by have := h.neSt o.w; simp [this.1, this.2.2]), o.ne, o.hn, o.hw⟩
theorem So.set (o : So W base gn gw now was) (k : Nat) (x : Option (List UInt8)) : So (W.setCell ⟨gn, k, none⟩ (.string (encS x))) base gn gw (now.set k x) was := by
  refine ⟨?_, o.w.set_other _ _ (Ne.symm o.ne), o.ne, o.hn, o.hw⟩
  have := o.n.set k (.string (encS x))
  rw [List.setIfInBounds_toArray, ← strO_set] at this
  exact this
theorem So.cpN (o : So W base gn gw now was) (hu : Upd gn (strO was).toArray 9 W W') : So W' base gn gw was was := ⟨hu.row, o.w.upd hu (Ne.symm o.ne), o.ne, o.hn, o.hw⟩
theorem So.cpW (o : So W base gn gw now was) (hu : Upd gw (strO now).toArray 9 W W') : So W' base gn gw now now := ⟨o.n.upd hu o.ne, hu.row, o.ne, o.hn, o.hw⟩
theorem So.c1 (o : So W base gn gw now was) {k : Nat} {x : Option (List UInt8)} (hk : now[k]? = some x) : W.cell? ⟨gn, k, none⟩ = some (.string (encS x)) := o.n.cell k (by simp [strO_get, hk])
theorem OwnB.updS {B : Nat} {v : Value} {xs : List UInt8} {c d : Array Value} (h : OwnB W B 5 v xs) (hx : Row W x c 9) (hu : Upd x d 9 W W') : OwnB W' B 5 v xs := by
  refine ⟨h.1, ?_⟩
  rcases h.2 with h | ⟨g, cap, cur, hv, hg, hh, r⟩
  · exact .inl h
  · exact .inr ⟨g, cap, cur, hv, hg, Row.upd (show Row W g cur 5 from hh) hu (fun e => absurd (row_typeB (e ▸ hh) hx) (by decide)), r⟩
end
theorem wp_cpS {o : Oper} {a : Act} {W : World} {K : Act → World → Prop} {Q : Exit → Act → World → Prop} {d s : Operand} {g g2 n : Nat} {L M : List (Option (List UInt8))}
    (ho : o.op = .call { callee := .builtin .copy, args := #[d, s], argTypes := #[82, 82] }) (hd : a.eval d = .slice (some ⟨g, 0, none⟩) n n) (hs : a.eval s = .slice (some ⟨g2, 0, none⟩) n n)
    (hr : Row W g (strO L).toArray 9) (h2 : Row W g2 (strO M).toArray 9) (hL : L.length = n) (hM : M.length = n)
    (hK : ∀ W', Upd g (strO M).toArray 9 W W' → K (a.put o.dst (.int .i64 (n : Int))) W') : o.wp Try.prog a W K Q := by
  obtain ⟨W', hrun, hu⟩ := run_cpS (ty := o.type) hr h2 hL hM
  unfold Oper.wp execOp
  simp only [ho, resolve, invoke, builtin, Sem.run_bind, Sem.run_pure, Result.andThen_ok, List.map_toArray, List.map_cons, List.map_nil, hd, hs, hrun]
  exact hK W' hu
theorem wpl_cpS {ops : Array Oper} {rest : List Oper} {o : Oper} {a : Act} {W : World} {Q : Exit → Act → World → Prop} {d s : Operand} {g g2 n : Nat} {L M : List (Option (List UInt8))} (hgd : o.guard = none)
    (ho : o.op = .call { callee := .builtin .copy, args := #[d, s], argTypes := #[82, 82] }) (hd : a.eval d = .slice (some ⟨g, 0, none⟩) n n) (hs : a.eval s = .slice (some ⟨g2, 0, none⟩) n n)
    (hr : Row W g (strO L).toArray 9) (h2 : Row W g2 (strO M).toArray 9) (hL : L.length = n) (hM : M.length = n)
    (hK : ∀ W', Upd g (strO M).toArray 9 W W' → wpList Try.prog ops Q rest (a.put o.dst (.int .i64 (n : Int))) W') : wpList Try.prog ops Q (o :: rest) a W :=
  wpList_plain hgd fun _ hK' => wp_cpS ho hd hs hr h2 hL hM fun W' hu => hK' _ _ (hK W' hu)
end Go.Proofs.Ytmdmhjcdaejlkaa
